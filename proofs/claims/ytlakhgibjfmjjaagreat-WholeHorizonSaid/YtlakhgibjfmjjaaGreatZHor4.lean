/- Part 4 of 6 of the proof of the row RowWholeHorizon: whatever the input, the law returns true. No condition. -/
import Derived.Test.YtlakhgibjfmjjaaGreatZHor3
import Derived.KernelRfl
import Derived.Laws.BitsLemmas
import Derived.RowKit
import Derived.Test.YtlakhgibjfmjjaaGreatProg
set_option linter.unusedSimpArgs false
set_option linter.unusedVariables false
set_option linter.defProp false
namespace Go.Proofs.YtlakhgibjfmjjaaGreat.Can
open Go
def c155_r0 (e : Env) : Reg :=
 .op (.box 250 (e 2)) fun t5 =>
 .op (.mv (.pointer none)) fun t6 =>
 .done ((e.upd 5 t5).upd 6 t6)
def c155_r1 (e : Env) : Reg :=
 .op (.mv (e 0)) fun t8 =>
 .op (.eqK .ptr false t8 (.pointer none)) fun t9 =>
 .done (e.upd 9 t9)
def c155_r2 (e : Env) : Reg :=
 .op (.mv (.pointer none)) fun t6 =>
 .done (e.upd 6 t6)
def c155_r3 (e : Env) : Reg :=
 .op (.mv (e 0)) fun t10 =>
 .op (.nilCheck t10) fun t11 =>
 .op (.fieldAddr 1 t11) fun t12 =>
 .op (.load none t12) fun t13 =>
 .op (.mv (e 1)) fun t14 =>
 .op (.call 150 [t13, t14]) fun t15 =>
 .op (.mv t15) fun t7 =>
 .done (e.upd 7 t7)
def c155_r4 (e : Env) : Reg :=
 .op (.mv (e 7)) fun t16 =>
 .op (.bin .lss t16 (.int .i64 0)) fun t17 =>
 .done (e.upd 17 t17)
def c155_r5 (e : Env) : Reg :=
 .op (.mv (.pointer none)) fun t6 =>
 .done (e.upd 6 t6)
def c155_r6 (e : Env) : Reg :=
 .op (.mv (e 0)) fun t18 =>
 .op (.nilCheck t18) fun t19 =>
 .op (.fieldAddr 2 t19) fun t20 =>
 .op (.load none t20) fun t21 =>
 .op (.mv (e 7)) fun t22 =>
 .op (.load (some 4) (e 5)) fun t23 =>
 .op (.indexSl 4 t21 t22) fun t24 =>
 .snap fun h7 =>
 .op (.store 4 t24 t23) fun _ =>
 .done e
def c155_r7 (e : Env) : Reg :=
 .op (.mv (e 0)) fun t25 =>
 .op (.nilCheck t25) fun t26 =>
 .op (.fieldAddr 2 t26) fun t27 =>
 .op (.load none t27) fun t28 =>
 .op (.mv (e 7)) fun t29 =>
 .op (.indexSl 4 t28 t29) fun t30 =>
 .op (.mv t30) fun t6 =>
 .done (e.upd 6 t6)
def c155 : CFn := ⟨(.seq (.region c155_r0) (.seq (.seq (.region c155_r1) (.cond (fun e => e 9) (.seq (.region c155_r2) .ret) .skip)) (.seq (.region c155_r3) (.seq (.seq (.region c155_r4) (.cond (fun e => e 17) (.seq (.region c155_r5) .ret) .skip)) (.seq (.region c155_r6) (.seq (.region c155_r7) .ret)))))), [.t 6]⟩
def p155 : Pers := ⟨8, [9, 17], 31, []⟩
def c156_r0 (e : Env) : Reg :=
 .op (.box 250 (e 0)) fun t3 =>
 .op (.box 126 (e 1)) fun t4 =>
 .op (.mv (.bool false)) fun t6 =>
 .done (((e.upd 3 t3).upd 4 t4).upd 6 t6)
def c156_r1 (e : Env) : Reg :=
 .op (.mv (e 2)) fun t7 =>
 .op (.fieldAddr 1 (e 3)) fun t8 =>
 .op (.load none t8) fun t9 =>
 .op (.fieldAddr 1 (e 4)) fun t10 =>
 .op (.load none t10) fun t11 =>
 .op (.call 126 [t9, t11]) fun t12 =>
 .op (.bin .lss t7 t12) fun t13 =>
 .op (.mv t13) fun t6 =>
 .done (e.upd 6 t6)
def c156 : CFn := ⟨(.seq (.region c156_r0) (.seq (.region c156_r1) .ret)), [.t 6]⟩
def p156 : Pers := ⟨7, [], 14, []⟩
def c157_r0 (e : Env) : Reg :=
 .op (.mv (.int .i64 0)) fun t8 =>
 .done (e.upd 8 t8)
def c157_r1 (e : Env) : Reg :=
 .op (.mv (.int .i64 0)) fun t9 =>
 .done (e.upd 9 t9)
def c157_r2 (e : Env) : Reg :=
 .op (.mv (e 2)) fun t12 =>
 .op (.mv (e 0)) fun t13 =>
 .op (.nilCheck t13) fun t14 =>
 .op (.fieldAddr 0 t14) fun t15 =>
 .op (.load none t15) fun t16 =>
 .op (.lenSl t16) fun t17 =>
 .op (.bin .sub t12 t17) fun t18 =>
 .op (.bin .add t18 (.int .i64 1)) fun t19 =>
 .op (.mv t19) fun t10 =>
 .done (e.upd 10 t10)
def c157_r3 (e : Env) : Reg :=
 .op (.mv (e 10)) fun t20 =>
 .op (.mv (e 2)) fun t21 =>
 .op (.bin .leq t20 t21) fun t22 =>
 .done (e.upd 22 t22)
def c157_r5 (e : Env) : Reg :=
 .op (.mv (e 0)) fun t25 =>
 .op (.mv (e 10)) fun t26 =>
 .op (.call 171 [t25, t26]) fun t27 =>
 .op (.mv (e 1)) fun t28 =>
 .op (.call 172 [t27, t28]) fun t29 =>
 .op (.mv t29) fun t11 =>
 .done (e.upd 11 t11)
def c157_r6 (e : Env) : Reg :=
 .op (.mv (e 10)) fun t30 =>
 .op (.mv (e 2)) fun t31 =>
 .op (.mv (e 0)) fun t32 =>
 .op (.nilCheck t32) fun t33 =>
 .op (.fieldAddr 0 t33) fun t34 =>
 .op (.load none t34) fun t35 =>
 .op (.lenSl t35) fun t36 =>
 .op (.bin .sub t31 t36) fun t37 =>
 .op (.bin .add t37 (.int .i64 1)) fun t38 =>
 .op (.bin .eql t30 t38) fun t39 =>
 .done (e.upd 39 t39)
def c157_r7 (e : Env) : Reg :=
 .op (.mv (e 0)) fun t40 =>
 .op (.mv (e 11)) fun t41 =>
 .op (.mv (e 3)) fun t42 =>
 .op (.call 173 [t40, t41, t42]) fun t43 =>
 .op (.mv t43) fun t11 =>
 .done (e.upd 11 t11)
def c157_r8 (e : Env) : Reg :=
 .op (.mv (e 9)) fun t44 =>
 .op (.mv (e 11)) fun t45 =>
 .op (.call 126 [t44, t45]) fun t46 =>
 .op (.mv t46) fun t9 =>
 .done (e.upd 9 t9)
def c157_r4 (e : Env) : Reg :=
 .op (.mv (e 10)) fun t23 =>
 .op (.bin .add t23 (.int .i64 1)) fun t24 =>
 .op (.mv t24) fun t10 =>
 .done (e.upd 10 t10)
def c157_l0 : CC := (.seq (.seq (.region c157_r3) (.cond (fun e => e 22) .skip (.exit 0))) (.seq (.block 1 (.seq (.region c157_r5) (.seq (.seq (.region c157_r6) (.cond (fun e => e 39) (.region c157_r7) .skip)) (.region c157_r8)))) (.region c157_r4)))
def c157_r9 (e : Env) : Reg :=
 .op (.mv (e 9)) fun t47 =>
 .op (.mv t47) fun t8 =>
 .done (e.upd 8 t8)
def R157 := an (ro c157_r0.eq_1) <| an (ro c157_r1.eq_1) <| an (ro c157_r2.eq_1) <| an (ro c157_r3.eq_1) <| an (ro c157_r5.eq_1) <| an (ro c157_r6.eq_1) <| an (ro c157_r7.eq_1) <| an (ro c157_r8.eq_1) <| an (ro c157_r4.eq_1) <| ro c157_r9.eq_1
def c157 : CFn := ⟨(.seq (.region c157_r0) (.seq (.region c157_r1) (.seq (.seq (.region c157_r2) (.block 0 (.loop c157_l0))) (.seq (.region c157_r9) .ret)))), [.t 8]⟩
def p157 : Pers := ⟨12, [22, 39], 48, []⟩
def c158_r0 (e : Env) : Reg :=
 .op (.mv (.int .i64 0)) fun t4 =>
 .done (e.upd 4 t4)
def c158_r1 (e : Env) : Reg :=
 .op (.mv (e 0)) fun t5 =>
 .op (.eqK .ptr false t5 (.pointer none)) fun t6 =>
 .done (e.upd 6 t6)
def c158_r2 (e : Env) : Reg :=
 .op (.mv (.int .i64 0)) fun t4 =>
 .done (e.upd 4 t4)
def c158_r3 (e : Env) : Reg :=
 .op (.mv (e 1)) fun t7 =>
 .op (.mv (e 0)) fun t8 =>
 .op (.nilCheck t8) fun t9 =>
 .op (.fieldAddr 2 t9) fun t10 =>
 .op (.load none t10) fun t11 =>
 .op (.bin .quo t7 t11) fun t12 =>
 .op (.mv t12) fun t4 =>
 .done (e.upd 4 t4)
def R158 := an (ro c158_r0.eq_1) <| an (ro c158_r1.eq_1) <| an (ro c158_r2.eq_1) <| ro c158_r3.eq_1
def c158 : CFn := ⟨(.seq (.region c158_r0) (.seq (.seq (.region c158_r1) (.cond (fun e => e 6) (.seq (.region c158_r2) .ret) .skip)) (.seq (.region c158_r3) .ret))), [.t 4]⟩
def p158 : Pers := ⟨5, [6], 13, []⟩
def c159_r0 (e : Env) : Reg :=
 .op (.mv (e 0)) fun t2 =>
 .op (.eqK .ptr true t2 (.pointer none)) fun t3 =>
 .done (e.upd 3 t3)
def c159_r1 (e : Env) : Reg :=
 .op (.mv (e 0)) fun t4 =>
 .op (.nilCheck t4) fun t5 =>
 .op (.fieldAddr 2 t5) fun t6 =>
 .op (.load none t6) fun t7 =>
 .op (.clearSl [(.int .i64 0)] t7) fun _ =>
 .done e
def R159 := an (ro c159_r0.eq_1) <| ro c159_r1.eq_1
def c159 : CFn := ⟨(.seq (.region c159_r0) (.cond (fun e => e 3) (.region c159_r1) .skip)), []⟩
def p159 : Pers := ⟨2, [3], 8, []⟩
def c160_r0 (e : Env) : Reg :=
 .op (.mv (e 0)) fun t9 =>
 .op (.eqK .ptr false t9 (.pointer none)) fun t10 =>
 .op (.mv t10) fun t11 =>
 .opg t11 false (.mv (e 2)) fun t12 =>
 .opg t11 false (.bin .lss t12 (.int .i64 1)) fun t13 =>
 .op (.pick t11 (.bool true) t13) fun t14 =>
 .done (e.upd 14 t14)
def c160_r1 (e : Env) : Reg :=
 .op (.mv (e 0)) fun t15 =>
 .op (.mv (e 1)) fun t16 =>
 .op (.call 172 [t15, t16]) fun t17 =>
 .op (.mv (e 2)) fun t18 =>
 .op (.call 126 [t17, t18]) fun t19 =>
 .op (.mv t19) fun t6 =>
 .done (e.upd 6 t6)
def c160_r2 (e : Env) : Reg :=
 .op (.mv (e 0)) fun t20 =>
 .op (.nilCheck t20) fun t21 =>
 .op (.fieldAddr 0 t21) fun t22 =>
 .op (.load none t22) fun t23 =>
 .op (.lenSl t23) fun t24 =>
 .op (.mv (.int .i64 0)) fun t25 =>
 .done ((e.upd 24 t24).upd 25 t25)
def c160_r3 (e : Env) : Reg :=
 .op (.bin .lss (e 25) (e 24)) fun t26 =>
 .done (e.upd 26 t26)
def c160_r4 (e : Env) : Reg :=
 .op (.mv (e 25)) fun t27 =>
 .op (.mv t27) fun t7 =>
 .done (e.upd 7 t7)
def c160_r5 (e : Env) : Reg :=
 .op (.mv (e 0)) fun t28 =>
 .op (.mv (e 7)) fun t29 =>
 .op (.mv (e 1)) fun t30 =>
 .op (.call 174 [t28, t29, t30]) fun t31 =>
 .op (.mv t31) fun t8 =>
 .done (e.upd 8 t8)
def c160_r6 (e : Env) : Reg :=
 .op (.mv (e 8)) fun t32 =>
 .op (.mv (e 8)) fun t33 =>
 .op (.nilCheck t33) fun t34 =>
 .op (.load none t34) fun t35 =>
 .op (.mv (e 6)) fun t36 =>
 .op (.minmax true [t35, t36]) fun t37 =>
 .op (.nilCheck t32) fun t38 =>
 .op (.store 1 t38 t37) fun _ =>
 .done e
def c160_r7 (e : Env) : Reg :=
 .op (.bin .add (e 25) (.int .i64 1)) fun t39 =>
 .op (.mv t39) fun t25 =>
 .done (e.upd 25 t25)
def c160_l0 : CC := (.seq (.region c160_r3) (.seq (.cond (fun e => e 26) .skip (.exit 0)) (.seq (.block 1 (.seq (.region c160_r4) (.seq (.region c160_r5) (.region c160_r6)))) (.region c160_r7))))
def R160 := an (ro c160_r0.eq_1) <| an (ro c160_r1.eq_1) <| an (ro c160_r2.eq_1) <| an (ro c160_r3.eq_1) <| an (ro c160_r4.eq_1) <| an (ro c160_r5.eq_1) <| an (ro c160_r6.eq_1) <| ro c160_r7.eq_1
def c160 : CFn := ⟨(.seq (.seq (.region c160_r0) (.cond (fun e => e 14) .ret .skip)) (.seq (.region c160_r1) (.seq (.region c160_r2) (.block 0 (.loop c160_l0))))), []⟩
def p160 : Pers := ⟨9, [14, 24, 25, 26], 40, []⟩
def c165_r0 (e : Env) : Reg :=
 .op (.mv (.int .i64 0)) fun t4 =>
 .op (.mv (.int .i64 0)) fun t5 =>
 .done ((e.upd 4 t4).upd 5 t5)
def c165_r1 (e : Env) : Reg :=
 .op (.mv (e 0)) fun t8 =>
 .op (.mv (e 1)) fun t9 =>
 .op (.call 175 [t8, t9]) fun t10 =>
 .op (.mv t10) fun t6 =>
 .done (e.upd 6 t6)
def c165_r3 (e : Env) : Reg :=
 .op (.mv (e 0)) fun t19 =>
 .op (.nilCheck t19) fun t20 =>
 .op (.fieldAddr 4 t20) fun t21 =>
 .op (.load none t21) fun t22 =>
 .op (.mv (e 6)) fun t23 =>
 .op (.indexSl 1 t22 t23) fun t24 =>
 .op (.load none t24) fun t25 =>
 .op (.conv .i64 t25) fun t26 =>
 .op (.bin .sub t26 (.int .i64 1)) fun t27 =>
 .op (.mv t27) fun t7 =>
 .done (e.upd 7 t7)
def c165_r4 (e : Env) : Reg :=
 .op (.mv (e 7)) fun t28 =>
 .op (.bin .lss t28 (.int .i64 0)) fun t29 =>
 .op (.mv t29) fun t30 =>
 .opg t30 false (.mv (e 0)) fun t31 =>
 .opg t30 false (.nilCheck t31) fun t32 =>
 .opg t30 false (.fieldAddr 0 t32) fun t33 =>
 .opg t30 false (.load none t33) fun t34 =>
 .opg t30 false (.mv (e 7)) fun t35 =>
 .opg t30 false (.mv (e 1)) fun t36 =>
 .opg t30 false (.call 176 [t34, t35, t36]) fun t37 =>
 .op (.pick t30 (.bool true) t37) fun t38 =>
 .done (e.upd 38 t38)
def c165_r5 (e : Env) : Reg :=
 .op (.mv (e 6)) fun t39 =>
 .op (.mv (e 7)) fun t40 =>
 .op (.mv t39) fun t4 =>
 .op (.mv t40) fun t5 =>
 .done ((e.upd 4 t4).upd 5 t5)
def c165_r2 (e : Env) : Reg :=
 .op (.mv (e 6)) fun t11 =>
 .op (.bin .add t11 (.int .i64 1)) fun t12 =>
 .op (.mv (e 0)) fun t13 =>
 .op (.nilCheck t13) fun t14 =>
 .op (.fieldAddr 4 t14) fun t15 =>
 .op (.load none t15) fun t16 =>
 .op (.lenSl t16) fun t17 =>
 .op (.bin .rem t12 t17) fun t18 =>
 .op (.mv t18) fun t6 =>
 .done (e.upd 6 t6)
def c165_l0 : CC := (.seq (.block 1 (.seq (.region c165_r3) (.seq (.region c165_r4) (.cond (fun e => e 38) (.seq (.region c165_r5) .ret) .skip)))) (.region c165_r2))
def c165 : CFn := ⟨(.seq (.region c165_r0) (.seq (.region c165_r1) (.block 0 (.loop c165_l0)))), [.t 4, .t 5]⟩
def p165 : Pers := ⟨8, [38], 41, []⟩
def c166_r0 (e : Env) : Reg :=
 .op (.mv (.string ⟨#[]⟩)) fun t4 =>
 .op (.mv (.bool false)) fun t5 =>
 .done ((e.upd 4 t4).upd 5 t5)
def c166_r1 (e : Env) : Reg :=
 .op (.mv (e 0)) fun t6 =>
 .op (.mv (e 1)) fun t7 =>
 .op (.call 177 [t6, t7]) fun t8 =>
 .op (.un .not t8) fun t9 =>
 .done (e.upd 9 t9)
def c166_r2 (e : Env) : Reg :=
 .op (.mv (.string ⟨#[]⟩)) fun t4 =>
 .op (.mv (.bool false)) fun t5 =>
 .done ((e.upd 4 t4).upd 5 t5)
def c166_r3_c2 (e : Env) (t13 : Value) (t15 : Value) (t17 : Value) (t25 : Value) : Reg :=
 .op (.bin .add t17 t25) fun t26 =>
 .op (.slice 5 1 t13 (some t15) (some t26)) fun t27 =>
 .op (.toStr t27) fun t28 =>
 .op (.mv t28) fun t4 =>
 .op (.mv (.bool true)) fun t5 =>
 .done ((e.upd 4 t4).upd 5 t5)
def c166_r3_c1 (e : Env) (t13 : Value) (t15 : Value) (t17 : Value) : Reg :=
 .op (.mv (e 0)) fun t18 =>
 .op (.nilCheck t18) fun t19 =>
 .op (.fieldAddr 1 t19) fun t20 =>
 .op (.load none t20) fun t21 =>
 .op (.mv (e 1)) fun t22 =>
 .op (.indexSl 1 t21 t22) fun t23 =>
 .op (.load none t23) fun t24 =>
 .op (.conv .i64 t24) fun t25 =>
 c166_r3_c2 e t13 t15 t17 t25
def c166_r3 (e : Env) : Reg :=
 .op (.mv (e 0)) fun t10 =>
 .op (.nilCheck t10) fun t11 =>
 .op (.fieldAddr 0 t11) fun t12 =>
 .op (.load none t12) fun t13 =>
 .op (.mv (e 1)) fun t14 =>
 .op (.bin .mul t14 (.int .i64 64)) fun t15 =>
 .op (.mv (e 1)) fun t16 =>
 .op (.bin .mul t16 (.int .i64 64)) fun t17 =>
 c166_r3_c1 e t13 t15 t17
def R166 := an (ro c166_r0.eq_1) <| an (ro c166_r1.eq_1) <| an (ro c166_r2.eq_1) <| an (ro4 c166_r3_c2.eq_1) <| an (ro3 c166_r3_c1.eq_1) <| ro c166_r3.eq_1
def c166 : CFn := ⟨(.seq (.region c166_r0) (.seq (.seq (.region c166_r1) (.cond (fun e => e 9) (.seq (.region c166_r2) .ret) .skip)) (.seq (.region c166_r3) .ret))), [.t 4, .t 5]⟩
def p166 : Pers := ⟨6, [9], 29, []⟩
def c168_r0 (e : Env) : Reg :=
 .op (.mv (.int .i64 0)) fun t4 =>
 .done (e.upd 4 t4)
def c168_r1_c1 (e : Env) (t8 : Value) (t13 : Value) : Reg :=
 .op (.pick t8 (.bool true) t13) fun t14 =>
 .op (.mv t14) fun t15 =>
 .opg t15 false (.mv (e 1)) fun t16 =>
 .opg t15 false (.lenStr t16) fun t17 =>
 .opg t15 false (.bin .gtr t17 (.int .i64 64)) fun t18 =>
 .op (.pick t15 (.bool true) t18) fun t19 =>
 .done (e.upd 19 t19)
def c168_r1 (e : Env) : Reg :=
 .op (.mv (e 0)) fun t6 =>
 .op (.eqK .ptr false t6 (.pointer none)) fun t7 =>
 .op (.mv t7) fun t8 =>
 .opg t8 false (.mv (e 0)) fun t9 =>
 .opg t8 false (.nilCheck t9) fun t10 =>
 .opg t8 false (.fieldAddr 3 t10) fun t11 =>
 .opg t8 false (.load none t11) fun t12 =>
 .opg t8 false (.bin .lss t12 (.int .i32 0)) fun t13 =>
 c168_r1_c1 e t8 t13
def c168_r2 (e : Env) : Reg :=
 .op (.mv (.int .i64 (-1))) fun t4 =>
 .done (e.upd 4 t4)
def c168_r3 (e : Env) : Reg :=
 .op (.mv (e 0)) fun t20 =>
 .op (.nilCheck t20) fun t21 =>
 .op (.fieldAddr 3 t21) fun t22 =>
 .op (.load none t22) fun t23 =>
 .op (.conv .i64 t23) fun t24 =>
 .op (.mv t24) fun t5 =>
 .done (e.upd 5 t5)
def c168_r4_c1 (e : Env) (t25 : Value) (t32 : Value) : Reg :=
 .op (.nilCheck t25) fun t33 =>
 .op (.fieldAddr 3 t33) fun t34 =>
 .op (.store 1 t34 t32) fun _ =>
 .done e
def c168_r4 (e : Env) : Reg :=
 .op (.mv (e 0)) fun t25 =>
 .op (.mv (e 0)) fun t26 =>
 .op (.nilCheck t26) fun t27 =>
 .op (.fieldAddr 2 t27) fun t28 =>
 .op (.load none t28) fun t29 =>
 .op (.mv (e 5)) fun t30 =>
 .op (.indexSl 1 t29 t30) fun t31 =>
 .op (.load none t31) fun t32 =>
 c168_r4_c1 e t25 t32
def c168_r5 (e : Env) : Reg :=
 .op (.mv (e 0)) fun t35 =>
 .op (.nilCheck t35) fun t36 =>
 .op (.fieldAddr 0 t36) fun t37 =>
 .op (.load none t37) fun t38 =>
 .op (.mv (e 5)) fun t39 =>
 .op (.bin .mul t39 (.int .i64 64)) fun t40 =>
 .op (.slice 5 1 t38 (some t40) none) fun t41 =>
 .op (.mv (e 1)) fun t42 =>
 .op (.copy 1 t41 t42) fun t43 =>
 .done e
def c168_r6 (e : Env) : Reg :=
 .op (.mv (e 0)) fun t44 =>
 .op (.nilCheck t44) fun t45 =>
 .op (.fieldAddr 1 t45) fun t46 =>
 .op (.load none t46) fun t47 =>
 .op (.mv (e 5)) fun t48 =>
 .op (.mv (e 1)) fun t49 =>
 .op (.lenStr t49) fun t50 =>
 .op (.conv .i8 t50) fun t51 =>
 .op (.indexSl 1 t47 t48) fun t52 =>
 .op (.store 1 t52 t51) fun _ =>
 .done e
def c168_r7 (e : Env) : Reg :=
 .op (.mv (e 0)) fun t53 =>
 .op (.nilCheck t53) fun t54 =>
 .op (.fieldAddr 4 t54) fun t55 =>
 .op (.load none t55) fun t56 =>
 .op (.bin .add t56 (.int .i64 1)) fun t57 =>
 .op (.nilCheck t53) fun t58 =>
 .op (.fieldAddr 4 t58) fun t59 =>
 .op (.store 1 t59 t57) fun _ =>
 .done e
def c168_r8 (e : Env) : Reg :=
 .op (.mv (e 5)) fun t60 =>
 .op (.mv t60) fun t4 =>
 .done (e.upd 4 t4)
def R168 := an (ro c168_r0.eq_1) <| an (ro2 c168_r1_c1.eq_1) <| an (ro c168_r1.eq_1) <| an (ro c168_r2.eq_1) <| an (ro c168_r3.eq_1) <| an (ro2 c168_r4_c1.eq_1) <| an (ro c168_r4.eq_1) <| an (ro c168_r5.eq_1) <| an (ro c168_r6.eq_1) <| an (ro c168_r7.eq_1) <| ro c168_r8.eq_1
def c168 : CFn := ⟨(.seq (.region c168_r0) (.seq (.seq (.region c168_r1) (.cond (fun e => e 19) (.seq (.region c168_r2) .ret) .skip)) (.seq (.region c168_r3) (.seq (.region c168_r4) (.seq (.region c168_r5) (.seq (.region c168_r6) (.seq (.region c168_r7) (.seq (.region c168_r8) .ret)))))))), [.t 4]⟩
def p168 : Pers := ⟨6, [19], 61, []⟩
def c171_r0 (e : Env) : Reg :=
 .op (.mv (.pointer none)) fun t4 =>
 .done (e.upd 4 t4)
def c171_r1 (e : Env) : Reg :=
 .op (.mv (e 1)) fun t6 =>
 .op (.bin .lss t6 (.int .i64 0)) fun t7 =>
 .done (e.upd 7 t7)
def c171_r2 (e : Env) : Reg :=
 .op (.mv (.pointer none)) fun t4 =>
 .done (e.upd 4 t4)
def c171_r3 (e : Env) : Reg :=
 .op (.mv (e 1)) fun t8 =>
 .op (.mv (e 0)) fun t9 =>
 .op (.nilCheck t9) fun t10 =>
 .op (.fieldAddr 0 t10) fun t11 =>
 .op (.load none t11) fun t12 =>
 .op (.lenSl t12) fun t13 =>
 .op (.bin .rem t8 t13) fun t14 =>
 .op (.mv t14) fun t5 =>
 .done (e.upd 5 t5)
def c171_r4 (e : Env) : Reg :=
 .op (.mv (e 0)) fun t15 =>
 .op (.nilCheck t15) fun t16 =>
 .op (.fieldAddr 1 t16) fun t17 =>
 .op (.load none t17) fun t18 =>
 .op (.mv (e 5)) fun t19 =>
 .op (.indexSl 1 t18 t19) fun t20 =>
 .op (.load none t20) fun t21 =>
 .op (.mv (e 1)) fun t22 =>
 .op (.bin .add t22 (.int .i64 1)) fun t23 =>
 .op (.bin .neq t21 t23) fun t24 =>
 .done (e.upd 24 t24)
def c171_r5 (e : Env) : Reg :=
 .op (.mv (.pointer none)) fun t4 =>
 .done (e.upd 4 t4)
def c171_r6 (e : Env) : Reg :=
 .op (.mv (e 0)) fun t25 =>
 .op (.nilCheck t25) fun t26 =>
 .op (.fieldAddr 0 t26) fun t27 =>
 .op (.load none t27) fun t28 =>
 .op (.mv (e 5)) fun t29 =>
 .op (.indexSl 1 t28 t29) fun t30 =>
 .op (.load none t30) fun t31 =>
 .op (.mv t31) fun t4 =>
 .done (e.upd 4 t4)
def R171 := an (ro c171_r0.eq_1) <| an (ro c171_r1.eq_1) <| an (ro c171_r2.eq_1) <| an (ro c171_r3.eq_1) <| an (ro c171_r4.eq_1) <| an (ro c171_r5.eq_1) <| ro c171_r6.eq_1
def c171 : CFn := ⟨(.seq (.region c171_r0) (.seq (.seq (.region c171_r1) (.cond (fun e => e 7) (.seq (.region c171_r2) .ret) .skip)) (.seq (.region c171_r3) (.seq (.seq (.region c171_r4) (.cond (fun e => e 24) (.seq (.region c171_r5) .ret) .skip)) (.seq (.region c171_r6) .ret))))), [.t 4]⟩
def p171 : Pers := ⟨6, [7, 24], 32, []⟩
def c172_r0 (e : Env) : Reg :=
 .op (.mv (.int .i64 0)) fun t4 =>
 .done (e.upd 4 t4)
def c172_r1 (e : Env) : Reg :=
 .op (.mv (e 0)) fun t7 =>
 .op (.eqK .ptr false t7 (.pointer none)) fun t8 =>
 .done (e.upd 8 t8)
def c172_r2 (e : Env) : Reg :=
 .op (.mv (.int .i64 0)) fun t4 =>
 .done (e.upd 4 t4)
def c172_r3 (e : Env) : Reg :=
 .op (.mv (e 0)) fun t9 =>
 .op (.mv (e 1)) fun t10 =>
 .op (.call 174 [t9, (.int .i64 0), t10]) fun t11 =>
 .op (.nilCheck t11) fun t12 =>
 .op (.load none t12) fun t13 =>
 .op (.mv t13) fun t5 =>
 .done (e.upd 5 t5)
def c172_r4 (e : Env) : Reg :=
 .op (.mv (.int .i64 1)) fun t6 =>
 .done (e.upd 6 t6)
def c172_r5 (e : Env) : Reg :=
 .op (.mv (e 6)) fun t14 =>
 .op (.mv (e 0)) fun t15 =>
 .op (.nilCheck t15) fun t16 =>
 .op (.fieldAddr 0 t16) fun t17 =>
 .op (.load none t17) fun t18 =>
 .op (.lenSl t18) fun t19 =>
 .op (.bin .lss t14 t19) fun t20 =>
 .done (e.upd 20 t20)
def c172_r7 (e : Env) : Reg :=
 .op (.mv (e 5)) fun t23 =>
 .op (.mv (e 0)) fun t24 =>
 .op (.mv (e 6)) fun t25 =>
 .op (.mv (e 1)) fun t26 =>
 .op (.call 174 [t24, t25, t26]) fun t27 =>
 .op (.nilCheck t27) fun t28 =>
 .op (.load none t28) fun t29 =>
 .op (.minmax false [t23, t29]) fun t30 =>
 .op (.mv t30) fun t5 =>
 .done (e.upd 5 t5)
def c172_r6 (e : Env) : Reg :=
 .op (.mv (e 6)) fun t21 =>
 .op (.bin .add t21 (.int .i64 1)) fun t22 =>
 .op (.mv t22) fun t6 =>
 .done (e.upd 6 t6)
def c172_l0 : CC := (.seq (.seq (.region c172_r5) (.cond (fun e => e 20) .skip (.exit 0))) (.seq (.block 1 (.region c172_r7)) (.region c172_r6)))
def c172_r8 (e : Env) : Reg :=
 .op (.mv (e 5)) fun t31 =>
 .op (.mv t31) fun t4 =>
 .done (e.upd 4 t4)
def R172 := an (ro c172_r0.eq_1) <| an (ro c172_r1.eq_1) <| an (ro c172_r2.eq_1) <| an (ro c172_r3.eq_1) <| an (ro c172_r4.eq_1) <| an (ro c172_r5.eq_1) <| an (ro c172_r7.eq_1) <| an (ro c172_r6.eq_1) <| ro c172_r8.eq_1
def c172 : CFn := ⟨(.seq (.region c172_r0) (.seq (.seq (.region c172_r1) (.cond (fun e => e 8) (.seq (.region c172_r2) .ret) .skip)) (.seq (.region c172_r3) (.seq (.seq (.region c172_r4) (.block 0 (.loop c172_l0))) (.seq (.region c172_r8) .ret))))), [.t 4]⟩
def p172 : Pers := ⟨7, [8, 20], 32, []⟩
def c173_r0 (e : Env) : Reg :=
 .op (.mv (.int .i64 0)) fun t6 =>
 .done (e.upd 6 t6)
def c173_r1 (e : Env) : Reg :=
 .op (.mv (e 0)) fun t9 =>
 .op (.nilCheck t9) fun t10 =>
 .op (.fieldAddr 5 t10) fun t11 =>
 .op (.load none t11) fun t12 =>
 .op (.un .not t12) fun t13 =>
 .done (e.upd 13 t13)
def c173_r2 (e : Env) : Reg :=
 .op (.mv (e 1)) fun t14 =>
 .op (.mv t14) fun t6 =>
 .done (e.upd 6 t6)
def c173_r3_c2 (e : Env) (t30 : Value) : Reg :=
 .op (.mv t30) fun t15 =>
 .op (.extract t15 0) fun t31 =>
 .op (.extract t15 1) fun t32 =>
 .op (.mv t31) fun t7 =>
 .op (.mv t32) fun t8 =>
 .done ((e.upd 7 t7).upd 8 t8)
def c173_r3_c1 (e : Env) (t17 : Value) (t23 : Value) : Reg :=
 .op (.conv .u64 t23) fun t24 =>
 .op (.mv (e 0)) fun t25 =>
 .op (.nilCheck t25) fun t26 =>
 .op (.fieldAddr 2 t26) fun t27 =>
 .op (.load none t27) fun t28 =>
 .op (.conv .u64 t28) fun t29 =>
 .snap fun h14 =>
 .op (.call 179 [t17, t24, t29]) fun t30 =>
 c173_r3_c2 e t30
def c173_r3 (e : Env) : Reg :=
 .op (.mv (e 1)) fun t16 =>
 .op (.conv .u64 t16) fun t17 =>
 .op (.mv (e 0)) fun t18 =>
 .op (.nilCheck t18) fun t19 =>
 .op (.fieldAddr 2 t19) fun t20 =>
 .op (.load none t20) fun t21 =>
 .op (.mv (e 2)) fun t22 =>
 .op (.bin .sub t21 t22) fun t23 =>
 c173_r3_c1 e t17 t23
def c173_r4 (e : Env) : Reg :=
 .op (.mv (e 7)) fun t33 =>
 .op (.conv .i64 t33) fun t34 =>
 .op (.mv t34) fun t6 =>
 .done (e.upd 6 t6)
def R173 := an (ro c173_r0.eq_1) <| an (ro c173_r1.eq_1) <| an (ro c173_r2.eq_1) <| an (ro1 c173_r3_c2.eq_1) <| an (ro2 c173_r3_c1.eq_1) <| an (ro c173_r3.eq_1) <| ro c173_r4.eq_1
def c173 : CFn := ⟨(.seq (.region c173_r0) (.seq (.seq (.region c173_r1) (.cond (fun e => e 13) (.seq (.region c173_r2) .ret) .skip)) (.seq (.region c173_r3) (.seq (.region c173_r4) .ret)))), [.t 6]⟩
def p173 : Pers := ⟨9, [13], 35, []⟩
def c174_r0 (e : Env) : Reg :=
 .op (.mv (.pointer none)) fun t6 =>
 .done (e.upd 6 t6)
def c174_r1_c3 (e : Env) (t9 : Value) (t10 : Value) (t14 : Value) (t15 : Value) (t16 : Value) (t29 : Value) : Reg :=
 .chk none none (.load none t14) t15 <|
 .chk none none (.load none t9) t10 <|
 .op (.bin .add t16 t29) fun t30 =>
 .op (.indexSl 1 t10 t30) fun t31 =>
 .op (.mv t31) fun t6 =>
 .done (e.upd 6 t6)
def c174_r1_c2 (e : Env) (t9 : Value) (t10 : Value) (t14 : Value) (t15 : Value) (t16 : Value) (t22 : Value) : Reg :=
 .op (.load (some 3) t22) fun t23 =>
 .op (.mv (e 2)) fun t24 =>
 .op (.mv (e 0)) fun t25 =>
 .op (.nilCheck t25) fun t26 =>
 .op (.fieldAddr 1 t26) fun t27 =>
 .op (.load none t27) fun t28 =>
 .snap fun h22 =>
 .op (.call 180 [t23, t24, t28]) fun t29 =>
 c174_r1_c3 e t9 t10 t14 t15 t16 t29
def c174_r1_c1 (e : Env) (t9 : Value) (t10 : Value) (t11 : Value) (t14 : Value) : Reg :=
 .op (.load none t14) fun t15 =>
 .op (.bin .mul t11 t15) fun t16 =>
 .op (.mv (e 0)) fun t17 =>
 .op (.nilCheck t17) fun t18 =>
 .op (.fieldAddr 0 t18) fun t19 =>
 .op (.load none t19) fun t20 =>
 .op (.mv (e 1)) fun t21 =>
 .op (.indexSl 3 t20 t21) fun t22 =>
 c174_r1_c2 e t9 t10 t14 t15 t16 t22
def c174_r1 (e : Env) : Reg :=
 .op (.mv (e 0)) fun t7 =>
 .op (.nilCheck t7) fun t8 =>
 .op (.fieldAddr 2 t8) fun t9 =>
 .op (.load none t9) fun t10 =>
 .op (.mv (e 1)) fun t11 =>
 .op (.mv (e 0)) fun t12 =>
 .op (.nilCheck t12) fun t13 =>
 .op (.fieldAddr 1 t13) fun t14 =>
 c174_r1_c1 e t9 t10 t11 t14
def R174 := an (ro c174_r0.eq_1) <| an (ro6 c174_r1_c3.eq_1) <| an (ro6 c174_r1_c2.eq_1) <| an (ro4 c174_r1_c1.eq_1) <| ro c174_r1.eq_1
def c174 : CFn := ⟨(.seq (.region c174_r0) (.seq (.region c174_r1) .ret)), [.t 6]⟩
def p174 : Pers := ⟨7, [], 32, []⟩
def c175_r0 (e : Env) : Reg :=
 .op (.mv (.int .i64 0)) fun t4 =>
 .done (e.upd 4 t4)
def c175_r1 (e : Env) : Reg :=
 .op (.mv (e 0)) fun t5 =>
 .op (.nilCheck t5) fun t6 =>
 .op (.fieldAddr 1 t6) fun t7 =>
 .op (.load (some 3) t7) fun t8 =>
 .op (.mv (e 1)) fun t9 =>
 .op (.mv (e 0)) fun t10 =>
 .op (.nilCheck t10) fun t11 =>
 .op (.fieldAddr 4 t11) fun t12 =>
 .op (.load none t12) fun t13 =>
 .op (.lenSl t13) fun t14 =>
 .snap fun h10 =>
 .op (.call 180 [t8, t9, t14]) fun t15 =>
 .op (.mv t15) fun t4 =>
 .done (e.upd 4 t4)
def c175 : CFn := ⟨(.seq (.region c175_r0) (.seq (.region c175_r1) .ret)), [.t 4]⟩
def p175 : Pers := ⟨5, [], 16, []⟩
def c176_r0 (e : Env) : Reg :=
 .op (.mv (.bool false)) fun t6 =>
 .done (e.upd 6 t6)
def c176_r1_c3 (e : Env) (t10 : Value) (t29 : Value) : Reg :=
 .opg t10 true (.mv (e 2)) fun t30 =>
 .opg t10 true (.bin .eql t29 t30) fun t31 =>
 .op (.pick t10 t31 (.bool false)) fun t32 =>
 .op (.mv t32) fun t6 =>
 .done (e.upd 6 t6)
def c176_r1_c2 (e : Env) (t10 : Value) (t14 : Value) (t16 : Value) (t18 : Value) (t21 : Value) : Reg :=
 .opg t10 true (.load none t21) fun t22 =>
 .opg t10 true (.mv (e 1)) fun t23 =>
 .opg t10 true (.indexSl 1 t22 t23) fun t24 =>
 .opg t10 true (.load none t24) fun t25 =>
 .opg t10 true (.conv .i64 t25) fun t26 =>
 .opg t10 true (.bin .add t18 t26) fun t27 =>
 .opg t10 true (.slice 5 1 t14 (some t16) (some t27)) fun t28 =>
 .opg t10 true (.toStr t28) fun t29 =>
 c176_r1_c3 e t10 t29
def c176_r1_c1 (e : Env) (t10 : Value) (t13 : Value) : Reg :=
 .opg t10 true (.load none t13) fun t14 =>
 .opg t10 true (.mv (e 1)) fun t15 =>
 .opg t10 true (.bin .mul t15 (.int .i64 64)) fun t16 =>
 .opg t10 true (.mv (e 1)) fun t17 =>
 .opg t10 true (.bin .mul t17 (.int .i64 64)) fun t18 =>
 .opg t10 true (.mv (e 0)) fun t19 =>
 .opg t10 true (.nilCheck t19) fun t20 =>
 .opg t10 true (.fieldAddr 1 t20) fun t21 =>
 c176_r1_c2 e t10 t14 t16 t18 t21
def c176_r1 (e : Env) : Reg :=
 .op (.mv (e 0)) fun t7 =>
 .op (.mv (e 1)) fun t8 =>
 .snap fun h2 =>
 .op (.call 177 [t7, t8]) fun t9 =>
 .op (.mv t9) fun t10 =>
 .opg t10 true (.mv (e 0)) fun t11 =>
 .opg t10 true (.nilCheck t11) fun t12 =>
 .opg t10 true (.fieldAddr 0 t12) fun t13 =>
 c176_r1_c1 e t10 t13
def R176 := an (ro c176_r0.eq_1) <| an (ro2 c176_r1_c3.eq_1) <| an (ro5 c176_r1_c2.eq_1) <| an (ro2 c176_r1_c1.eq_1) <| ro c176_r1.eq_1
def c176 : CFn := ⟨(.seq (.region c176_r0) (.seq (.region c176_r1) .ret)), [.t 6]⟩
def p176 : Pers := ⟨7, [], 33, []⟩
def c177_r0 (e : Env) : Reg :=
 .op (.mv (.bool false)) fun t4 =>
 .done (e.upd 4 t4)
def c177_r1_c2 (e : Env) (t13 : Value) (t20 : Value) : Reg :=
 .opg t13 true (.bin .geq t20 (.int .i8 0)) fun t21 =>
 .op (.pick t13 t21 (.bool false)) fun t22 =>
 .op (.mv t22) fun t4 =>
 .done (e.upd 4 t4)
def c177_r1_c1 (e : Env) (t12 : Value) : Reg :=
 .op (.mv t12) fun t13 =>
 .opg t13 true (.mv (e 0)) fun t14 =>
 .opg t13 true (.nilCheck t14) fun t15 =>
 .opg t13 true (.fieldAddr 1 t15) fun t16 =>
 .opg t13 true (.load none t16) fun t17 =>
 .opg t13 true (.mv (e 1)) fun t18 =>
 .opg t13 true (.indexSl 1 t17 t18) fun t19 =>
 .opg t13 true (.load none t19) fun t20 =>
 c177_r1_c2 e t13 t20
def c177_r1 (e : Env) : Reg :=
 .op (.mv (e 1)) fun t5 =>
 .op (.bin .geq t5 (.int .i64 0)) fun t6 =>
 .op (.mv t6) fun t7 =>
 .opg t7 true (.mv (e 1)) fun t8 =>
 .opg t7 true (.mv (e 0)) fun t9 =>
 .opg t7 true (.call 100 [t9]) fun t10 =>
 .opg t7 true (.bin .lss t8 t10) fun t11 =>
 .op (.pick t7 t11 (.bool false)) fun t12 =>
 c177_r1_c1 e t12
def R177 := an (ro c177_r0.eq_1) <| an (ro2 c177_r1_c2.eq_1) <| an (ro1 c177_r1_c1.eq_1) <| ro c177_r1.eq_1
def c177 : CFn := ⟨(.seq (.region c177_r0) (.seq (.region c177_r1) .ret)), [.t 4]⟩
def p177 : Pers := ⟨5, [], 23, []⟩
def c178_r0 (e : Env) : Reg :=
 .op (.mv (e 0)) fun t4 =>
 .op (.mv (e 1)) fun t5 =>
 .op (.call 177 [t4, t5]) fun t6 =>
 .done (e.upd 6 t6)
def c178_r1_c2 (e : Env) (t15 : Value) (t16 : Value) (t20 : Value) (t21 : Value) : Reg :=
 .op (.store 1 t21 (.int .i8 (-1))) fun _ =>
 .op (.indexSl 1 t15 t16) fun t22 =>
 .snap fun h17 =>
 .op (.store 1 t22 t20) fun _ =>
 .done e
def c178_r1_c1 (e : Env) (t10 : Value) (t11 : Value) (t14 : Value) : Reg :=
 .op (.load none t14) fun t15 =>
 .op (.mv (e 1)) fun t16 =>
 .op (.mv (e 0)) fun t17 =>
 .op (.nilCheck t17) fun t18 =>
 .op (.fieldAddr 3 t18) fun t19 =>
 .op (.load none t19) fun t20 =>
 .op (.indexSl 1 t10 t11) fun t21 =>
 .snap fun h15 =>
 c178_r1_c2 e t15 t16 t20 t21
def c178_r1 (e : Env) : Reg :=
 .op (.mv (e 0)) fun t7 =>
 .op (.nilCheck t7) fun t8 =>
 .op (.fieldAddr 1 t8) fun t9 =>
 .op (.load none t9) fun t10 =>
 .op (.mv (e 1)) fun t11 =>
 .op (.mv (e 0)) fun t12 =>
 .op (.nilCheck t12) fun t13 =>
 .op (.fieldAddr 2 t13) fun t14 =>
 c178_r1_c1 e t10 t11 t14
def c178_r2 (e : Env) : Reg :=
 .op (.mv (e 0)) fun t23 =>
 .op (.mv (e 1)) fun t24 =>
 .op (.conv .i32 t24) fun t25 =>
 .op (.nilCheck t23) fun t26 =>
 .op (.fieldAddr 3 t26) fun t27 =>
 .op (.store 1 t27 t25) fun _ =>
 .done e
def c178_r3 (e : Env) : Reg :=
 .op (.mv (e 0)) fun t28 =>
 .op (.nilCheck t28) fun t29 =>
 .op (.fieldAddr 4 t29) fun t30 =>
 .op (.load none t30) fun t31 =>
 .op (.bin .sub t31 (.int .i64 1)) fun t32 =>
 .op (.nilCheck t28) fun t33 =>
 .op (.fieldAddr 4 t33) fun t34 =>
 .op (.store 1 t34 t32) fun _ =>
 .done e
def R178 := an (ro c178_r0.eq_1) <| an (ro4 c178_r1_c2.eq_1) <| an (ro3 c178_r1_c1.eq_1) <| an (ro c178_r1.eq_1) <| an (ro c178_r2.eq_1) <| ro c178_r3.eq_1
def c178 : CFn := ⟨(.seq (.region c178_r0) (.cond (fun e => e 6) (.seq (.region c178_r1) (.seq (.region c178_r2) (.region c178_r3))) .skip)), []⟩
def p178 : Pers := ⟨4, [6], 35, []⟩
def c179_r0 (e : Env) : Reg :=
 .op (.mv (.int .u64 0)) fun t6 =>
 .op (.mv (.bool false)) fun t7 =>
 .done ((e.upd 6 t6).upd 7 t7)
def c179_r1_c1 (e : Env) (t16 : Value) (t17 : Value) (t18 : Value) : Reg :=
 .op (.mv t16) fun t8 =>
 .op (.mv t17) fun t9 =>
 .op (.mv t18) fun t10 =>
 .done (((e.upd 8 t8).upd 9 t9).upd 10 t10)
def c179_r1 (e : Env) : Reg :=
 .op (.mv (e 0)) fun t12 =>
 .op (.mv (e 1)) fun t13 =>
 .op (.mv (e 2)) fun t14 =>
 .op (.call 181 [t12, t13, t14]) fun t15 =>
 .op (.mv t15) fun t11 =>
 .op (.extract t11 0) fun t16 =>
 .op (.extract t11 1) fun t17 =>
 .op (.extract t11 2) fun t18 =>
 c179_r1_c1 e t16 t17 t18
def c179_r2 (e : Env) : Reg :=
 .op (.mv (e 10)) fun t19 =>
 .op (.un .not t19) fun t20 =>
 .op (.mv t20) fun t21 =>
 .opg t21 false (.mv (e 9)) fun t22 =>
 .opg t21 false (.bin .gtr t22 (.int .u64 0)) fun t23 =>
 .opg t21 false (.mv t23) fun t24 =>
 .opg t24 true (.mv (e 8)) fun t25 =>
 .opg t24 true (.bin .eql t25 (.int .u64 18446744073709551615)) fun t26 =>
 .opg t21 false (.pick t24 t26 (.bool false)) fun t27 =>
 .op (.pick t21 (.bool true) t27) fun t28 =>
 .done (e.upd 28 t28)
def c179_r3 (e : Env) : Reg :=
 .op (.mv (.int .u64 0)) fun t6 =>
 .op (.mv (.bool false)) fun t7 =>
 .done ((e.upd 6 t6).upd 7 t7)
def c179_r4 (e : Env) : Reg :=
 .op (.mv (e 9)) fun t29 =>
 .op (.bin .gtr t29 (.int .u64 0)) fun t30 =>
 .done (e.upd 30 t30)
def c179_r5 (e : Env) : Reg :=
 .op (.mv (e 8)) fun t31 =>
 .op (.bin .add t31 (.int .u64 1)) fun t32 =>
 .op (.mv t32) fun t8 =>
 .done (e.upd 8 t8)
def c179_r6 (e : Env) : Reg :=
 .op (.mv (e 8)) fun t33 =>
 .op (.mv t33) fun t6 =>
 .op (.mv (.bool true)) fun t7 =>
 .done ((e.upd 6 t6).upd 7 t7)
def R179 := an (ro c179_r0.eq_1) <| an (ro3 c179_r1_c1.eq_1) <| an (ro c179_r1.eq_1) <| an (ro c179_r2.eq_1) <| an (ro c179_r3.eq_1) <| an (ro c179_r4.eq_1) <| an (ro c179_r5.eq_1) <| ro c179_r6.eq_1
def c179 : CFn := ⟨(.seq (.region c179_r0) (.seq (.region c179_r1) (.seq (.seq (.region c179_r2) (.cond (fun e => e 28) (.seq (.region c179_r3) .ret) .skip)) (.seq (.seq (.region c179_r4) (.cond (fun e => e 30) (.region c179_r5) .skip)) (.seq (.region c179_r6) .ret))))), [.t 6, .t 7]⟩
def p179 : Pers := ⟨11, [28, 30], 34, []⟩
def c180_r0 (e : Env) : Reg :=
 .op (.box 182 (e 0)) fun t3 =>
 .op (.mv (.int .i64 0)) fun t6 =>
 .done ((e.upd 3 t3).upd 6 t6)
def c180_r1 (e : Env) : Reg :=
 .op (.load (some 3) (e 3)) fun t7 =>
 .op (.mv (e 1)) fun t8 =>
 .op (.call 183 [t7, t8]) fun t9 =>
 .op (.mv (e 2)) fun t10 =>
 .op (.call 182 [t9, t10]) fun t11 =>
 .op (.mv t11) fun t6 =>
 .done (e.upd 6 t6)
def R180 := an (ro c180_r0.eq_1) <| ro c180_r1.eq_1
def c180 : CFn := ⟨(.seq (.region c180_r0) (.seq (.region c180_r1) .ret)), [.t 6]⟩
def p180 : Pers := ⟨7, [], 12, []⟩
def c181_r0 (e : Env) : Reg :=
 .op (.mv (.int .u64 0)) fun t6 =>
 .op (.mv (.int .u64 0)) fun t7 =>
 .op (.mv (.bool false)) fun t8 =>
 .done (((e.upd 6 t6).upd 7 t7).upd 8 t8)
def c181_r1 (e : Env) : Reg :=
 .op (.mv (e 0)) fun t14 =>
 .op (.mv (e 1)) fun t15 =>
 .op (.call 85 [t14, t15]) fun t16 =>
 .op (.mv t16) fun t13 =>
 .op (.extract t13 0) fun t17 =>
 .op (.extract t13 1) fun t18 =>
 .op (.mv t17) fun t9 =>
 .op (.mv t18) fun t10 =>
 .done ((e.upd 9 t9).upd 10 t10)
def c181_r2 (e : Env) : Reg :=
 .op (.mv (e 2)) fun t19 =>
 .op (.bin .eql t19 (.int .u64 0)) fun t20 =>
 .op (.mv t20) fun t21 =>
 .opg t21 false (.mv (e 9)) fun t22 =>
 .opg t21 false (.mv (e 2)) fun t23 =>
 .opg t21 false (.bin .geq t22 t23) fun t24 =>
 .op (.pick t21 (.bool true) t24) fun t25 =>
 .done (e.upd 25 t25)
def c181_r3 (e : Env) : Reg :=
 .op (.mv (.int .u64 0)) fun t6 =>
 .op (.mv (.int .u64 0)) fun t7 =>
 .op (.mv (.bool false)) fun t8 =>
 .done (((e.upd 6 t6).upd 7 t7).upd 8 t8)
def c181_r4 (e : Env) : Reg :=
 .op (.mv (e 9)) fun t27 =>
 .op (.mv (e 10)) fun t28 =>
 .op (.mv (e 2)) fun t29 =>
 .op (.call 184 [t27, t28, t29]) fun t30 =>
 .op (.mv t30) fun t26 =>
 .op (.extract t26 0) fun t31 =>
 .op (.extract t26 1) fun t32 =>
 .op (.mv t31) fun t11 =>
 .op (.mv t32) fun t12 =>
 .done ((e.upd 11 t11).upd 12 t12)
def c181_r5 (e : Env) : Reg :=
 .op (.mv (e 11)) fun t33 =>
 .op (.mv (e 12)) fun t34 =>
 .op (.mv t33) fun t6 =>
 .op (.mv t34) fun t7 =>
 .op (.mv (.bool true)) fun t8 =>
 .done (((e.upd 6 t6).upd 7 t7).upd 8 t8)
def R181 := an (ro c181_r0.eq_1) <| an (ro c181_r1.eq_1) <| an (ro c181_r2.eq_1) <| an (ro c181_r3.eq_1) <| an (ro c181_r4.eq_1) <| ro c181_r5.eq_1
def c181 : CFn := ⟨(.seq (.region c181_r0) (.seq (.region c181_r1) (.seq (.seq (.region c181_r2) (.cond (fun e => e 25) (.seq (.region c181_r3) .ret) .skip)) (.seq (.region c181_r4) (.seq (.region c181_r5) .ret))))), [.t 6, .t 7, .t 8]⟩
def p181 : Pers := ⟨13, [25], 35, []⟩
def c182_r0 (e : Env) : Reg :=
 .op (.mv (.int .i64 0)) fun t4 =>
 .done (e.upd 4 t4)
def c182_r1 (e : Env) : Reg :=
 .op (.mv (e 1)) fun t7 =>
 .op (.bin .lss t7 (.int .i64 1)) fun t8 =>
 .done (e.upd 8 t8)
def c182_r2 (e : Env) : Reg :=
 .op (.mv (.int .i64 0)) fun t4 =>
 .done (e.upd 4 t4)
def c182_r3 (e : Env) : Reg :=
 .op (.mv (e 0)) fun t10 =>
 .op (.mv (e 1)) fun t11 =>
 .op (.conv .u64 t11) fun t12 =>
 .op (.call 185 [t10, t12, (.int .u64 2305843009213693951)]) fun t13 =>
 .op (.mv t13) fun t9 =>
 .op (.extract t9 0) fun t14 =>
 .op (.extract t9 1) fun t15 =>
 .op (.mv t14) fun t5 =>
 .op (.mv t15) fun t6 =>
 .done ((e.upd 5 t5).upd 6 t6)
def c182_r4 (e : Env) : Reg :=
 .op (.mv (e 5)) fun t16 =>
 .op (.conv .i64 t16) fun t17 =>
 .op (.mv t17) fun t4 =>
 .done (e.upd 4 t4)
def R182 := an (ro c182_r0.eq_1) <| an (ro c182_r1.eq_1) <| an (ro c182_r2.eq_1) <| an (ro c182_r3.eq_1) <| ro c182_r4.eq_1
def c182 : CFn := ⟨(.seq (.region c182_r0) (.seq (.seq (.region c182_r1) (.cond (fun e => e 8) (.seq (.region c182_r2) .ret) .skip)) (.seq (.region c182_r3) (.seq (.region c182_r4) .ret)))), [.t 4]⟩
def p182 : Pers := ⟨7, [8], 18, []⟩
def c183_r0 (e : Env) : Reg :=
 .op (.box 182 (e 0)) fun t2 =>
 .op (.mv (.int .u64 0)) fun t4 =>
 .done ((e.upd 2 t2).upd 4 t4)
def c183_r1 (e : Env) : Reg :=
 .op (.mv (e 1)) fun t7 =>
 .op (.lenStr t7) fun t8 =>
 .op (.conv .u64 t8) fun t9 =>
 .op (.bin .add t9 (.int .u64 1)) fun t10 =>
 .op (.mv t10) fun t5 =>
 .done (e.upd 5 t5)
def c183_r2 (e : Env) : Reg :=
 .op (.mv (.int .i64 0)) fun t6 =>
 .done (e.upd 6 t6)
def c183_r3 (e : Env) : Reg :=
 .op (.mv (e 6)) fun t11 =>
 .op (.mv (e 1)) fun t12 =>
 .op (.lenStr t12) fun t13 =>
 .op (.bin .lss t11 t13) fun t14 =>
 .done (e.upd 14 t14)
def c183_r5_c1 (e : Env) (t20 : Value) (t21 : Value) (t22 : Value) (t23 : Value) : Reg :=
 .op (.bin .add t23 (.int .i64 7)) fun t24 =>
 .op (.mv (e 1)) fun t25 =>
 .op (.lenStr t25) fun t26 =>
 .op (.minmax false [t24, t26]) fun t27 =>
 .op (.sliceStr t21 (some t22) (some t27)) fun t28 =>
 .snap fun h12 =>
 .op (.call 188 [t28]) fun t29 =>
 .snap fun h13 =>
 .op (.call 186 [t20, t29]) fun t30 =>
 .op (.mv t30) fun t5 =>
 .done (e.upd 5 t5)
def c183_r5 (e : Env) : Reg :=
 .op (.mv (e 5)) fun t17 =>
 .op (.fieldAddr 0 (e 2)) fun t18 =>
 .op (.load none t18) fun t19 =>
 .snap fun h3 =>
 .op (.call 187 [t17, t19]) fun t20 =>
 .op (.mv (e 1)) fun t21 =>
 .op (.mv (e 6)) fun t22 =>
 .op (.mv (e 6)) fun t23 =>
 c183_r5_c1 e t20 t21 t22 t23
def c183_r4 (e : Env) : Reg :=
 .op (.mv (e 6)) fun t15 =>
 .op (.bin .add t15 (.int .i64 7)) fun t16 =>
 .op (.mv t16) fun t6 =>
 .done (e.upd 6 t6)
def c183_l0 : CC := (.seq (.seq (.region c183_r3) (.cond (fun e => e 14) .skip (.exit 0))) (.seq (.block 1 (.region c183_r5)) (.region c183_r4)))
def c183_r6_c1 (e : Env) (t34 : Value) (t36 : Value) : Reg :=
 .snap fun h6 =>
 .op (.call 186 [t34, t36]) fun t37 =>
 .op (.mv t37) fun t4 =>
 .done (e.upd 4 t4)
def c183_r6 (e : Env) : Reg :=
 .op (.mv (e 5)) fun t31 =>
 .op (.fieldAddr 1 (e 2)) fun t32 =>
 .op (.load none t32) fun t33 =>
 .snap fun h3 =>
 .op (.call 187 [t31, t33]) fun t34 =>
 .op (.fieldAddr 2 (e 2)) fun t35 =>
 .op (.load none t35) fun t36 =>
 .chk none (some h3) (.load none t35) t36 <|
 c183_r6_c1 e t34 t36
def R183 := an (ro c183_r0.eq_1) <| an (ro c183_r1.eq_1) <| an (ro c183_r2.eq_1) <| an (ro c183_r3.eq_1) <| an (ro4 c183_r5_c1.eq_1) <| an (ro c183_r5.eq_1) <| an (ro c183_r4.eq_1) <| an (ro2 c183_r6_c1.eq_1) <| ro c183_r6.eq_1
def c183 : CFn := ⟨(.seq (.region c183_r0) (.seq (.region c183_r1) (.seq (.seq (.region c183_r2) (.block 0 (.loop c183_l0))) (.seq (.region c183_r6) .ret)))), [.t 4]⟩
def p183 : Pers := ⟨7, [14], 38, []⟩
def c184_r0 (e : Env) : Reg :=
 .op (.mv (.int .u64 0)) fun t6 =>
 .op (.mv (.int .u64 0)) fun t7 =>
 .done ((e.upd 6 t6).upd 7 t7)
def c184_r1 (e : Env) : Reg :=
 .op (.mv (e 2)) fun t19 =>
 .op (.bin .eql t19 (.int .u64 0)) fun t20 =>
 .done (e.upd 20 t20)
def c184_r2 (e : Env) : Reg :=
 .op (.load none unk) fun t21 =>
 .op (.bad) fun _ =>
 .done e
def c184_r3 (e : Env) : Reg :=
 .op (.mv (e 2)) fun t22 =>
 .op (.mv (e 0)) fun t23 =>
 .op (.bin .leq t22 t23) fun t24 =>
 .done (e.upd 24 t24)
def c184_r4 (e : Env) : Reg :=
 .op (.load none unk) fun t25 =>
 .op (.bad) fun _ =>
 .done e
def c184_r5 (e : Env) : Reg :=
 .op (.mv (e 0)) fun t26 =>
 .op (.bin .eql t26 (.int .u64 0)) fun t27 =>
 .done (e.upd 27 t27)
def c184_r6 (e : Env) : Reg :=
 .op (.mv (e 1)) fun t28 =>
 .op (.mv (e 2)) fun t29 =>
 .op (.bin .quo t28 t29) fun t30 =>
 .op (.mv (e 1)) fun t31 =>
 .op (.mv (e 2)) fun t32 =>
 .op (.bin .rem t31 t32) fun t33 =>
 .op (.mv t30) fun t6 =>
 .op (.mv t33) fun t7 =>
 .done ((e.upd 6 t6).upd 7 t7)
def c184_r7 (e : Env) : Reg :=
 .op (.mv (e 2)) fun t34 =>
 .op (.call 189 [t34]) fun t35 =>
 .op (.conv .u64 t35) fun t36 =>
 .op (.mv t36) fun t8 =>
 .done (e.upd 8 t8)
def c184_r8 (e : Env) : Reg :=
 .op (.mv (e 2)) fun t37 =>
 .op (.mv (e 8)) fun t38 =>
 .op (.bin .shl t37 t38) fun t39 =>
 .op (.mv t39) fun t2 =>
 .done (e.upd 2 t2)
def c184_r9 (e : Env) : Reg :=
 .op (.mv (e 2)) fun t40 =>
 .op (.bin .shr t40 (.int .u64 32)) fun t41 =>
 .op (.mv t41) fun t9 =>
 .done (e.upd 9 t9)
def c184_r10 (e : Env) : Reg :=
 .op (.mv (e 2)) fun t42 =>
 .op (.bin .and t42 (.int .u64 4294967295)) fun t43 =>
 .op (.mv t43) fun t10 =>
 .done (e.upd 10 t10)
def c184_r11 (e : Env) : Reg :=
 .op (.mv (e 0)) fun t44 =>
 .op (.mv (e 8)) fun t45 =>
 .op (.bin .shl t44 t45) fun t46 =>
 .op (.mv (e 1)) fun t47 =>
 .op (.mv (e 8)) fun t48 =>
 .op (.bin .sub (.int .u64 64) t48) fun t49 =>
 .op (.bin .shr t47 t49) fun t50 =>
 .op (.bin .or t46 t50) fun t51 =>
 .op (.mv t51) fun t11 =>
 .done (e.upd 11 t11)
def c184_r12 (e : Env) : Reg :=
 .op (.mv (e 1)) fun t52 =>
 .op (.mv (e 8)) fun t53 =>
 .op (.bin .shl t52 t53) fun t54 =>
 .op (.mv t54) fun t12 =>
 .done (e.upd 12 t12)
def c184_r13 (e : Env) : Reg :=
 .op (.mv (e 12)) fun t55 =>
 .op (.bin .shr t55 (.int .u64 32)) fun t56 =>
 .op (.mv t56) fun t13 =>
 .done (e.upd 13 t13)
def c184_r14 (e : Env) : Reg :=
 .op (.mv (e 12)) fun t57 =>
 .op (.bin .and t57 (.int .u64 4294967295)) fun t58 =>
 .op (.mv t58) fun t14 =>
 .done (e.upd 14 t14)
def c184_r15 (e : Env) : Reg :=
 .op (.mv (e 11)) fun t59 =>
 .op (.mv (e 9)) fun t60 =>
 .op (.bin .quo t59 t60) fun t61 =>
 .op (.mv t61) fun t15 =>
 .done (e.upd 15 t15)
def c184_r16 (e : Env) : Reg :=
 .op (.mv (e 11)) fun t62 =>
 .op (.mv (e 15)) fun t63 =>
 .op (.mv (e 9)) fun t64 =>
 .op (.bin .mul t63 t64) fun t65 =>
 .op (.bin .sub t62 t65) fun t66 =>
 .op (.mv t66) fun t16 =>
 .done (e.upd 16 t16)
def c184_r17_c1 (e : Env) (t69 : Value) (t72 : Value) (t74 : Value) : Reg :=
 .opg t69 false (.mv (e 13)) fun t75 =>
 .opg t69 false (.bin .add t74 t75) fun t76 =>
 .opg t69 false (.bin .gtr t72 t76) fun t77 =>
 .op (.pick t69 (.bool true) t77) fun t78 =>
 .done (e.upd 78 t78)
def c184_r17 (e : Env) : Reg :=
 .op (.mv (e 15)) fun t67 =>
 .op (.bin .geq t67 (.int .u64 4294967296)) fun t68 =>
 .op (.mv t68) fun t69 =>
 .opg t69 false (.mv (e 15)) fun t70 =>
 .opg t69 false (.mv (e 10)) fun t71 =>
 .opg t69 false (.bin .mul t70 t71) fun t72 =>
 .opg t69 false (.mv (e 16)) fun t73 =>
 .opg t69 false (.bin .mul (.int .u64 4294967296) t73) fun t74 =>
 c184_r17_c1 e t69 t72 t74
def c184_r18 (e : Env) : Reg :=
 .op (.mv (e 15)) fun t79 =>
 .op (.bin .sub t79 (.int .u64 1)) fun t80 =>
 .op (.mv t80) fun t15 =>
 .done (e.upd 15 t15)
def c184_r19 (e : Env) : Reg :=
 .op (.mv (e 16)) fun t81 =>
 .op (.mv (e 9)) fun t82 =>
 .op (.bin .add t81 t82) fun t83 =>
 .op (.mv t83) fun t16 =>
 .done (e.upd 16 t16)
def c184_r20 (e : Env) : Reg :=
 .op (.mv (e 16)) fun t84 =>
 .op (.bin .geq t84 (.int .u64 4294967296)) fun t85 =>
 .done (e.upd 85 t85)
def c184_l0 : CC := (.seq (.seq (.region c184_r17) (.cond (fun e => e 78) .skip (.exit 0))) (.block 1 (.seq (.region c184_r18) (.seq (.region c184_r19) (.seq (.region c184_r20) (.cond (fun e => e 85) (.exit 0) .skip))))))
def c184_r21 (e : Env) : Reg :=
 .op (.mv (e 11)) fun t86 =>
 .op (.bin .mul t86 (.int .u64 4294967296)) fun t87 =>
 .op (.mv (e 13)) fun t88 =>
 .op (.bin .add t87 t88) fun t89 =>
 .op (.mv (e 15)) fun t90 =>
 .op (.mv (e 2)) fun t91 =>
 .op (.bin .mul t90 t91) fun t92 =>
 .op (.bin .sub t89 t92) fun t93 =>
 .op (.mv t93) fun t17 =>
 .done (e.upd 17 t17)
def c184_r22 (e : Env) : Reg :=
 .op (.mv (e 17)) fun t94 =>
 .op (.mv (e 9)) fun t95 =>
 .op (.bin .quo t94 t95) fun t96 =>
 .op (.mv t96) fun t18 =>
 .done (e.upd 18 t18)
def c184_r23 (e : Env) : Reg :=
 .op (.mv (e 17)) fun t97 =>
 .op (.mv (e 18)) fun t98 =>
 .op (.mv (e 9)) fun t99 =>
 .op (.bin .mul t98 t99) fun t100 =>
 .op (.bin .sub t97 t100) fun t101 =>
 .op (.mv t101) fun t16 =>
 .done (e.upd 16 t16)
def c184_r24_c1 (e : Env) (t104 : Value) (t107 : Value) (t109 : Value) : Reg :=
 .opg t104 false (.mv (e 14)) fun t110 =>
 .opg t104 false (.bin .add t109 t110) fun t111 =>
 .opg t104 false (.bin .gtr t107 t111) fun t112 =>
 .op (.pick t104 (.bool true) t112) fun t113 =>
 .done (e.upd 113 t113)
def c184_r24 (e : Env) : Reg :=
 .op (.mv (e 18)) fun t102 =>
 .op (.bin .geq t102 (.int .u64 4294967296)) fun t103 =>
 .op (.mv t103) fun t104 =>
 .opg t104 false (.mv (e 18)) fun t105 =>
 .opg t104 false (.mv (e 10)) fun t106 =>
 .opg t104 false (.bin .mul t105 t106) fun t107 =>
 .opg t104 false (.mv (e 16)) fun t108 =>
 .opg t104 false (.bin .mul (.int .u64 4294967296) t108) fun t109 =>
 c184_r24_c1 e t104 t107 t109
def c184_r25 (e : Env) : Reg :=
 .op (.mv (e 18)) fun t114 =>
 .op (.bin .sub t114 (.int .u64 1)) fun t115 =>
 .op (.mv t115) fun t18 =>
 .done (e.upd 18 t18)
def c184_r26 (e : Env) : Reg :=
 .op (.mv (e 16)) fun t116 =>
 .op (.mv (e 9)) fun t117 =>
 .op (.bin .add t116 t117) fun t118 =>
 .op (.mv t118) fun t16 =>
 .done (e.upd 16 t16)
def c184_r27 (e : Env) : Reg :=
 .op (.mv (e 16)) fun t119 =>
 .op (.bin .geq t119 (.int .u64 4294967296)) fun t120 =>
 .done (e.upd 120 t120)
def c184_l1 : CC := (.seq (.seq (.region c184_r24) (.cond (fun e => e 113) .skip (.exit 2))) (.block 3 (.seq (.region c184_r25) (.seq (.region c184_r26) (.seq (.region c184_r27) (.cond (fun e => e 120) (.exit 2) .skip))))))
def c184_r28_c1 (e : Env) (t124 : Value) (t128 : Value) : Reg :=
 .op (.mv (e 18)) fun t129 =>
 .op (.mv (e 2)) fun t130 =>
 .op (.bin .mul t129 t130) fun t131 =>
 .op (.bin .sub t128 t131) fun t132 =>
 .op (.mv (e 8)) fun t133 =>
 .op (.bin .shr t132 t133) fun t134 =>
 .op (.mv t124) fun t6 =>
 .op (.mv t134) fun t7 =>
 .done ((e.upd 6 t6).upd 7 t7)
def c184_r28 (e : Env) : Reg :=
 .op (.mv (e 15)) fun t121 =>
 .op (.bin .mul t121 (.int .u64 4294967296)) fun t122 =>
 .op (.mv (e 18)) fun t123 =>
 .op (.bin .add t122 t123) fun t124 =>
 .op (.mv (e 17)) fun t125 =>
 .op (.bin .mul t125 (.int .u64 4294967296)) fun t126 =>
 .op (.mv (e 14)) fun t127 =>
 .op (.bin .add t126 t127) fun t128 =>
 c184_r28_c1 e t124 t128
def R184 := an (ro c184_r0.eq_1) <| an (ro c184_r1.eq_1) <| an (ro c184_r2.eq_1) <| an (ro c184_r3.eq_1) <| an (ro c184_r4.eq_1) <| an (ro c184_r5.eq_1) <| an (ro c184_r6.eq_1) <| an (ro c184_r7.eq_1) <| an (ro c184_r8.eq_1) <| an (ro c184_r9.eq_1) <| an (ro c184_r10.eq_1) <| an (ro c184_r11.eq_1) <| an (ro c184_r12.eq_1) <| an (ro c184_r13.eq_1) <| an (ro c184_r14.eq_1) <| an (ro c184_r15.eq_1) <| an (ro c184_r16.eq_1) <| an (ro3 c184_r17_c1.eq_1) <| an (ro c184_r17.eq_1) <| an (ro c184_r18.eq_1) <| an (ro c184_r19.eq_1) <| an (ro c184_r20.eq_1) <| an (ro c184_r21.eq_1) <| an (ro c184_r22.eq_1) <| an (ro c184_r23.eq_1) <| an (ro3 c184_r24_c1.eq_1) <| an (ro c184_r24.eq_1) <| an (ro c184_r25.eq_1) <| an (ro c184_r26.eq_1) <| an (ro c184_r27.eq_1) <| an (ro2 c184_r28_c1.eq_1) <| ro c184_r28.eq_1
def c184 : CFn := ⟨(.seq (.region c184_r0) (.seq (.seq (.region c184_r1) (.cond (fun e => e 20) (.region c184_r2) .skip)) (.seq (.seq (.region c184_r3) (.cond (fun e => e 24) (.region c184_r4) .skip)) (.seq (.seq (.region c184_r5) (.cond (fun e => e 27) (.seq (.region c184_r6) .ret) .skip)) (.seq (.region c184_r7) (.seq (.region c184_r8) (.seq (.region c184_r9) (.seq (.region c184_r10) (.seq (.region c184_r11) (.seq (.region c184_r12) (.seq (.region c184_r13) (.seq (.region c184_r14) (.seq (.region c184_r15) (.seq (.region c184_r16) (.seq (.block 0 (.loop c184_l0)) (.seq (.region c184_r21) (.seq (.region c184_r22) (.seq (.region c184_r23) (.seq (.block 2 (.loop c184_l1)) (.seq (.region c184_r28) .ret)))))))))))))))))))), [.t 6, .t 7]⟩
def p184 : Pers := ⟨19, [20, 24, 27, 78, 85, 113, 120], 135, []⟩
def c185_r0 (e : Env) : Reg :=
 .op (.mv (.int .u64 0)) fun t6 =>
 .op (.mv (.bool false)) fun t7 =>
 .done ((e.upd 6 t6).upd 7 t7)
def c185_r1_c1 (e : Env) (t16 : Value) (t17 : Value) (t18 : Value) : Reg :=
 .op (.mv t16) fun t8 =>
 .op (.mv t17) fun t9 =>
 .op (.mv t18) fun t10 =>
 .done (((e.upd 8 t8).upd 9 t9).upd 10 t10)
def c185_r1 (e : Env) : Reg :=
 .op (.mv (e 0)) fun t12 =>
 .op (.mv (e 1)) fun t13 =>
 .op (.mv (e 2)) fun t14 =>
 .op (.call 181 [t12, t13, t14]) fun t15 =>
 .op (.mv t15) fun t11 =>
 .op (.extract t11 0) fun t16 =>
 .op (.extract t11 1) fun t17 =>
 .op (.extract t11 2) fun t18 =>
 c185_r1_c1 e t16 t17 t18
def c185_r2 (e : Env) : Reg :=
 .op (.mv (e 8)) fun t19 =>
 .op (.mv (e 10)) fun t20 =>
 .op (.mv t19) fun t6 =>
 .op (.mv t20) fun t7 =>
 .done ((e.upd 6 t6).upd 7 t7)
def R185 := an (ro c185_r0.eq_1) <| an (ro3 c185_r1_c1.eq_1) <| an (ro c185_r1.eq_1) <| ro c185_r2.eq_1
def c185 : CFn := ⟨(.seq (.region c185_r0) (.seq (.region c185_r1) (.seq (.region c185_r2) .ret))), [.t 6, .t 7]⟩
def p185 : Pers := ⟨11, [], 21, []⟩
def c186_r0 (e : Env) : Reg :=
 .op (.mv (.int .u64 0)) fun t4 =>
 .done (e.upd 4 t4)
def c186_r1 (e : Env) : Reg :=
 .op (.mv (e 0)) fun t5 =>
 .op (.mv (e 1)) fun t6 =>
 .op (.bin .add t5 t6) fun t7 =>
 .op (.call 90 [t7]) fun t8 =>
 .op (.mv t8) fun t4 =>
 .done (e.upd 4 t4)
def R186 := an (ro c186_r0.eq_1) <| ro c186_r1.eq_1
def c186 : CFn := ⟨(.seq (.region c186_r0) (.seq (.region c186_r1) .ret)), [.t 4]⟩
def p186 : Pers := ⟨5, [], 9, []⟩
def c187_r0 (e : Env) : Reg :=
 .op (.mv (.int .u64 0)) fun t4 =>
 .done (e.upd 4 t4)
def c187_r1 (e : Env) : Reg :=
 .op (.mv (e 0)) fun t8 =>
 .op (.mv (e 1)) fun t9 =>
 .op (.call 85 [t8, t9]) fun t10 =>
 .op (.mv t10) fun t7 =>
 .op (.extract t7 0) fun t11 =>
 .op (.extract t7 1) fun t12 =>
 .op (.mv t11) fun t5 =>
 .op (.mv t12) fun t6 =>
 .done ((e.upd 5 t5).upd 6 t6)
def c187_r2_c1 (e : Env) (t18 : Value) (t20 : Value) : Reg :=
 .op (.bin .rem t20 (.int .u64 2305843009213693951)) fun t21 =>
 .op (.call 186 [t18, t21]) fun t22 =>
 .op (.mv t22) fun t4 =>
 .done (e.upd 4 t4)
def c187_r2 (e : Env) : Reg :=
 .op (.mv (e 5)) fun t13 =>
 .op (.bin .shl t13 (.int .u64 3)) fun t14 =>
 .op (.mv (e 6)) fun t15 =>
 .op (.bin .shr t15 (.int .u64 61)) fun t16 =>
 .op (.bin .or t14 t16) fun t17 =>
 .op (.call 90 [t17]) fun t18 =>
 .op (.mv (e 6)) fun t19 =>
 .op (.bin .and t19 (.int .u64 2305843009213693951)) fun t20 =>
 c187_r2_c1 e t18 t20
def R187 := an (ro c187_r0.eq_1) <| an (ro c187_r1.eq_1) <| an (ro2 c187_r2_c1.eq_1) <| ro c187_r2.eq_1
def c187 : CFn := ⟨(.seq (.region c187_r0) (.seq (.region c187_r1) (.seq (.region c187_r2) .ret))), [.t 4]⟩
def p187 : Pers := ⟨7, [], 23, []⟩
def c188_r0 (e : Env) : Reg :=
 .op (.mv (.int .u64 0)) fun t2 =>
 .done (e.upd 2 t2)
def c188_r1 (e : Env) : Reg :=
 .op (.mv (.int .u64 0)) fun t3 =>
 .done (e.upd 3 t3)
def c188_r2 (e : Env) : Reg :=
 .op (.mv (e 0)) fun t5 =>
 .op (.lenStr t5) fun t6 =>
 .op (.mv (.int .i64 0)) fun t7 =>
 .done ((e.upd 6 t6).upd 7 t7)
def c188_r3 (e : Env) : Reg :=
 .op (.bin .lss (e 7) (e 6)) fun t8 =>
 .done (e.upd 8 t8)
def c188_r4 (e : Env) : Reg :=
 .op (.mv (e 7)) fun t9 =>
 .op (.mv t9) fun t4 =>
 .done (e.upd 4 t4)
def c188_r5 (e : Env) : Reg :=
 .op (.mv (e 3)) fun t10 =>
 .op (.bin .shl t10 (.int .u64 8)) fun t11 =>
 .op (.mv (e 0)) fun t12 =>
 .op (.mv (e 4)) fun t13 =>
 .op (.indexStr t12 t13) fun t14 =>
 .op (.conv .u64 t14) fun t15 =>
 .op (.bin .or t11 t15) fun t16 =>
 .op (.mv t16) fun t3 =>
 .done (e.upd 3 t3)
def c188_r6 (e : Env) : Reg :=
 .op (.bin .add (e 7) (.int .i64 1)) fun t17 =>
 .op (.mv t17) fun t7 =>
 .done (e.upd 7 t7)
def c188_l0 : CC := (.seq (.region c188_r3) (.seq (.cond (fun e => e 8) .skip (.exit 0)) (.seq (.block 1 (.seq (.region c188_r4) (.region c188_r5))) (.region c188_r6))))
def c188_r7 (e : Env) : Reg :=
 .op (.mv (e 3)) fun t18 =>
 .op (.mv t18) fun t2 =>
 .done (e.upd 2 t2)
def R188 := an (ro c188_r0.eq_1) <| an (ro c188_r1.eq_1) <| an (ro c188_r2.eq_1) <| an (ro c188_r3.eq_1) <| an (ro c188_r4.eq_1) <| an (ro c188_r5.eq_1) <| an (ro c188_r6.eq_1) <| ro c188_r7.eq_1
def c188 : CFn := ⟨(.seq (.region c188_r0) (.seq (.region c188_r1) (.seq (.seq (.region c188_r2) (.block 0 (.loop c188_l0))) (.seq (.region c188_r7) .ret)))), [.t 2]⟩
def p188 : Pers := ⟨5, [6, 7, 8], 19, []⟩
def c189_r0 (e : Env) : Reg :=
 .op (.mv (.int .i64 0)) fun t2 =>
 .done (e.upd 2 t2)
def c189_r1 (e : Env) : Reg :=
 .op (.mv (e 0)) fun t3 =>
 .op (.call 190 [t3]) fun t4 =>
 .op (.bin .sub (.int .i64 64) t4) fun t5 =>
 .op (.mv t5) fun t2 =>
 .done (e.upd 2 t2)
def R189 := an (ro c189_r0.eq_1) <| ro c189_r1.eq_1
def c189 : CFn := ⟨(.seq (.region c189_r0) (.seq (.region c189_r1) .ret)), [.t 2]⟩
def p189 : Pers := ⟨3, [], 6, []⟩
def c190_r0 (e : Env) : Reg :=
 .op (.mv (.int .i64 0)) fun t2 =>
 .done (e.upd 2 t2)
def c190_r1 (e : Env) : Reg :=
 .op (.mv (e 0)) fun t3 =>
 .op (.bin .geq t3 (.int .u64 4294967296)) fun t4 =>
 .done (e.upd 4 t4)
def c190_r2 (e : Env) : Reg :=
 .op (.mv (e 0)) fun t5 =>
 .op (.bin .shr t5 (.int .u64 32)) fun t6 =>
 .op (.mv t6) fun t0 =>
 .done (e.upd 0 t0)
def c190_r3 (e : Env) : Reg :=
 .op (.mv (.int .i64 32)) fun t2 =>
 .done (e.upd 2 t2)
def c190_r4 (e : Env) : Reg :=
 .op (.mv (e 0)) fun t7 =>
 .op (.bin .geq t7 (.int .u64 65536)) fun t8 =>
 .done (e.upd 8 t8)
def c190_r5 (e : Env) : Reg :=
 .op (.mv (e 0)) fun t9 =>
 .op (.bin .shr t9 (.int .u64 16)) fun t10 =>
 .op (.mv t10) fun t0 =>
 .done (e.upd 0 t0)
def c190_r6 (e : Env) : Reg :=
 .op (.mv (e 2)) fun t11 =>
 .op (.bin .add t11 (.int .i64 16)) fun t12 =>
 .op (.mv t12) fun t2 =>
 .done (e.upd 2 t2)
def c190_r7 (e : Env) : Reg :=
 .op (.mv (e 0)) fun t13 =>
 .op (.bin .geq t13 (.int .u64 256)) fun t14 =>
 .done (e.upd 14 t14)
def c190_r8 (e : Env) : Reg :=
 .op (.mv (e 0)) fun t15 =>
 .op (.bin .shr t15 (.int .u64 8)) fun t16 =>
 .op (.mv t16) fun t0 =>
 .done (e.upd 0 t0)
def c190_r9 (e : Env) : Reg :=
 .op (.mv (e 2)) fun t17 =>
 .op (.bin .add t17 (.int .i64 8)) fun t18 =>
 .op (.mv t18) fun t2 =>
 .done (e.upd 2 t2)
def c190_r10 (e : Env) : Reg :=
 .op (.mv (e 2)) fun t19 =>
 .op (.mv (e 0)) fun t20 =>
 .op (.conv .u8 t20) fun t21 =>
 .op (.indexStr (.string big0) t21) fun t22 =>
 .op (.conv .i64 t22) fun t23 =>
 .op (.bin .add t19 t23) fun t24 =>
 .op (.mv t24) fun t2 =>
 .done (e.upd 2 t2)
def R190 := an (ro c190_r0.eq_1) <| an (ro c190_r1.eq_1) <| an (ro c190_r2.eq_1) <| an (ro c190_r3.eq_1) <| an (ro c190_r4.eq_1) <| an (ro c190_r5.eq_1) <| an (ro c190_r6.eq_1) <| an (ro c190_r7.eq_1) <| an (ro c190_r8.eq_1) <| an (ro c190_r9.eq_1) <| ro c190_r10.eq_1
def c190 : CFn := ⟨(.seq (.region c190_r0) (.seq (.seq (.region c190_r1) (.cond (fun e => e 4) (.seq (.region c190_r2) (.region c190_r3)) .skip)) (.seq (.seq (.region c190_r4) (.cond (fun e => e 8) (.seq (.region c190_r5) (.region c190_r6)) .skip)) (.seq (.seq (.region c190_r7) (.cond (fun e => e 14) (.seq (.region c190_r8) (.region c190_r9)) .skip)) (.seq (.region c190_r10) .ret))))), [.t 2]⟩
def p190 : Pers := ⟨3, [4, 8, 14], 25, []⟩
def cp : CProg
 | 7 => some c7
 | 11 => some c11
 | 12 => some c12
 | 13 => some c13
 | 14 => some c14
 | 15 => some c15
 | 20 => some c20
 | 21 => some c21
 | 26 => some c26
 | 27 => some c27
 | 28 => some c28
 | 30 => some c30
 | 31 => some c31
 | 32 => some c32
 | 34 => some c34
 | 35 => some c35
 | 36 => some c36
 | 38 => some c38
 | 39 => some c39
 | 40 => some c40
 | 44 => some c44
 | 45 => some c45
 | 46 => some c46
 | 47 => some c47
 | 49 => some c49
 | 50 => some c50
 | 51 => some c51
 | 52 => some c52
 | 53 => some c53
 | 54 => some c54
 | 55 => some c55
 | 56 => some c56
 | 57 => some c57
 | 58 => some c58
 | 59 => some c59
 | 60 => some c60
 | 61 => some c61
 | 62 => some c62
 | 63 => some c63
 | 64 => some c64
 | 65 => some c65
 | 66 => some c66
 | 70 => some c70
 | 71 => some c71
 | 72 => some c72
 | 73 => some c73
 | 74 => some c74
 | 75 => some c75
 | 76 => some c76
 | 77 => some c77
 | 78 => some c78
 | 79 => some c79
 | 80 => some c80
 | 81 => some c81
 | 82 => some c82
 | 83 => some c83
 | 84 => some c84
 | 85 => some c85
 | 86 => some c86
 | 87 => some c87
 | 88 => some c88
 | 89 => some c89
 | 90 => some c90
 | 91 => some c91
 | 92 => some c92
 | 93 => some c93
 | 94 => some c94
 | 95 => some c95
 | 96 => some c96
 | 97 => some c97
 | 98 => some c98
 | 99 => some c99
 | 100 => some c100
 | 101 => some c101
 | 117 => some c117
 | 118 => some c118
 | 119 => some c119
 | 120 => some c120
 | 121 => some c121
 | 126 => some c126
 | 127 => some c127
 | 128 => some c128
 | 129 => some c129
 | 130 => some c130
 | 131 => some c131
 | 132 => some c132
 | 134 => some c134
 | 135 => some c135
 | 136 => some c136
 | 139 => some c139
 | 141 => some c141
 | 142 => some c142
 | 144 => some c144
 | 145 => some c145
 | 147 => some c147
 | 148 => some c148
 | 150 => some c150
 | 151 => some c151
 | 155 => some c155
 | 156 => some c156
 | 157 => some c157
 | 158 => some c158
 | 159 => some c159
 | 160 => some c160
 | 165 => some c165
 | 166 => some c166
 | 168 => some c168
 | 171 => some c171
 | 172 => some c172
 | 173 => some c173
 | 174 => some c174
 | 175 => some c175
 | 176 => some c176
 | 177 => some c177
 | 178 => some c178
 | 179 => some c179
 | 180 => some c180
 | 181 => some c181
 | 182 => some c182
 | 183 => some c183
 | 184 => some c184
 | 185 => some c185
 | 186 => some c186
 | 187 => some c187
 | 188 => some c188
 | 189 => some c189
 | 190 => some c190
 | _ => none
theorem cp7 : cp 7 = some c7 := rfl
theorem cp11 : cp 11 = some c11 := rfl
theorem cp12 : cp 12 = some c12 := rfl
theorem cp13 : cp 13 = some c13 := rfl
theorem cp14 : cp 14 = some c14 := rfl
theorem cp15 : cp 15 = some c15 := rfl
theorem cp20 : cp 20 = some c20 := rfl
theorem cp21 : cp 21 = some c21 := rfl
theorem cp26 : cp 26 = some c26 := rfl
theorem cp27 : cp 27 = some c27 := rfl
theorem cp28 : cp 28 = some c28 := rfl
theorem cp30 : cp 30 = some c30 := rfl
theorem cp31 : cp 31 = some c31 := rfl
theorem cp32 : cp 32 = some c32 := rfl
theorem cp34 : cp 34 = some c34 := rfl
theorem cp35 : cp 35 = some c35 := rfl
theorem cp36 : cp 36 = some c36 := rfl
theorem cp38 : cp 38 = some c38 := rfl
theorem cp39 : cp 39 = some c39 := rfl
theorem cp40 : cp 40 = some c40 := rfl
theorem cp44 : cp 44 = some c44 := rfl
theorem cp45 : cp 45 = some c45 := rfl
theorem cp46 : cp 46 = some c46 := rfl
theorem cp47 : cp 47 = some c47 := rfl
theorem cp49 : cp 49 = some c49 := rfl
theorem cp50 : cp 50 = some c50 := rfl
theorem cp51 : cp 51 = some c51 := rfl
theorem cp52 : cp 52 = some c52 := rfl
theorem cp53 : cp 53 = some c53 := rfl
theorem cp54 : cp 54 = some c54 := rfl
theorem cp55 : cp 55 = some c55 := rfl
theorem cp56 : cp 56 = some c56 := rfl
theorem cp57 : cp 57 = some c57 := rfl
theorem cp58 : cp 58 = some c58 := rfl
theorem cp59 : cp 59 = some c59 := rfl
theorem cp60 : cp 60 = some c60 := rfl
theorem cp61 : cp 61 = some c61 := rfl
theorem cp62 : cp 62 = some c62 := rfl
theorem cp63 : cp 63 = some c63 := rfl
theorem cp64 : cp 64 = some c64 := rfl
theorem cp65 : cp 65 = some c65 := rfl
theorem cp66 : cp 66 = some c66 := rfl
theorem cp70 : cp 70 = some c70 := rfl
theorem cp71 : cp 71 = some c71 := rfl
theorem cp72 : cp 72 = some c72 := rfl
theorem cp73 : cp 73 = some c73 := rfl
theorem cp74 : cp 74 = some c74 := rfl
theorem cp75 : cp 75 = some c75 := rfl
theorem cp76 : cp 76 = some c76 := rfl
theorem cp77 : cp 77 = some c77 := rfl
theorem cp78 : cp 78 = some c78 := rfl
theorem cp79 : cp 79 = some c79 := rfl
theorem cp80 : cp 80 = some c80 := rfl
theorem cp81 : cp 81 = some c81 := rfl
theorem cp82 : cp 82 = some c82 := rfl
theorem cp83 : cp 83 = some c83 := rfl
theorem cp84 : cp 84 = some c84 := rfl
theorem cp85 : cp 85 = some c85 := rfl
theorem cp86 : cp 86 = some c86 := rfl
theorem cp87 : cp 87 = some c87 := rfl
theorem cp88 : cp 88 = some c88 := rfl
theorem cp89 : cp 89 = some c89 := rfl
theorem cp90 : cp 90 = some c90 := rfl
theorem cp91 : cp 91 = some c91 := rfl
theorem cp92 : cp 92 = some c92 := rfl
theorem cp93 : cp 93 = some c93 := rfl
theorem cp94 : cp 94 = some c94 := rfl
theorem cp95 : cp 95 = some c95 := rfl
theorem cp96 : cp 96 = some c96 := rfl
theorem cp97 : cp 97 = some c97 := rfl
theorem cp98 : cp 98 = some c98 := rfl
theorem cp99 : cp 99 = some c99 := rfl
theorem cp100 : cp 100 = some c100 := rfl
theorem cp101 : cp 101 = some c101 := rfl
theorem cp117 : cp 117 = some c117 := rfl
theorem cp118 : cp 118 = some c118 := rfl
theorem cp119 : cp 119 = some c119 := rfl
theorem cp120 : cp 120 = some c120 := rfl
theorem cp121 : cp 121 = some c121 := rfl
theorem cp126 : cp 126 = some c126 := rfl
theorem cp127 : cp 127 = some c127 := rfl
theorem cp128 : cp 128 = some c128 := rfl
theorem cp129 : cp 129 = some c129 := rfl
theorem cp130 : cp 130 = some c130 := rfl
theorem cp131 : cp 131 = some c131 := rfl
theorem cp132 : cp 132 = some c132 := rfl
theorem cp134 : cp 134 = some c134 := rfl
theorem cp135 : cp 135 = some c135 := rfl
theorem cp136 : cp 136 = some c136 := rfl
theorem cp139 : cp 139 = some c139 := rfl
theorem cp141 : cp 141 = some c141 := rfl
theorem cp142 : cp 142 = some c142 := rfl
theorem cp144 : cp 144 = some c144 := rfl
theorem cp145 : cp 145 = some c145 := rfl
theorem cp147 : cp 147 = some c147 := rfl
theorem cp148 : cp 148 = some c148 := rfl
theorem cp150 : cp 150 = some c150 := rfl
theorem cp151 : cp 151 = some c151 := rfl
theorem cp155 : cp 155 = some c155 := rfl
theorem cp156 : cp 156 = some c156 := rfl
theorem cp157 : cp 157 = some c157 := rfl
theorem cp158 : cp 158 = some c158 := rfl
theorem cp159 : cp 159 = some c159 := rfl
theorem cp160 : cp 160 = some c160 := rfl
theorem cp165 : cp 165 = some c165 := rfl
theorem cp166 : cp 166 = some c166 := rfl
theorem cp168 : cp 168 = some c168 := rfl
theorem cp171 : cp 171 = some c171 := rfl
theorem cp172 : cp 172 = some c172 := rfl
theorem cp173 : cp 173 = some c173 := rfl
theorem cp174 : cp 174 = some c174 := rfl
theorem cp175 : cp 175 = some c175 := rfl
theorem cp176 : cp 176 = some c176 := rfl
theorem cp177 : cp 177 = some c177 := rfl
theorem cp178 : cp 178 = some c178 := rfl
theorem cp179 : cp 179 = some c179 := rfl
theorem cp180 : cp 180 = some c180 := rfl
theorem cp181 : cp 181 = some c181 := rfl
theorem cp182 : cp 182 = some c182 := rfl
theorem cp183 : cp 183 = some c183 := rfl
theorem cp184 : cp 184 = some c184 := rfl
theorem cp185 : cp 185 = some c185 := rfl
theorem cp186 : cp 186 = some c186 := rfl
theorem cp187 : cp 187 = some c187 := rfl
theorem cp188 : cp 188 = some c188 := rfl
theorem cp189 : cp 189 = some c189 := rfl
theorem cp190 : cp 190 = some c190 := rfl
end Go.Proofs.YtlakhgibjfmjjaaGreat.Can
namespace Go.Proofs.YtlakhgibjfmjjaaGreat.Can
open Go
theorem fn7 : toFn Tryz.prog p7 Tryz.f7 = some c7 := by kernel_rfl
theorem fn11 : toFn Tryz.prog p11 Tryz.f11 = some c11 := by kernel_rfl
theorem fn12 : toFn Tryz.prog p12 Tryz.f12 = some c12 := by kernel_rfl
theorem fn13 : toFn Tryz.prog p13 Tryz.f13 = some c13 := by kernel_rfl
theorem fn14 : toFn Tryz.prog p14 Tryz.f14 = some c14 := by kernel_rfl
theorem fn15 : toFn Tryz.prog p15 Tryz.f15 = some c15 := by kernel_rfl
theorem fn20 : toFn Tryz.prog p20 Tryz.f20 = some c20 := by kernel_rfl
theorem fn21 : toFn Tryz.prog p21 Tryz.f21 = some c21 := by kernel_rfl
theorem fn26 : toFn Tryz.prog p26 Tryz.f26 = some c26 := by kernel_rfl
theorem fn27 : toFn Tryz.prog p27 Tryz.f27 = some c27 := by kernel_rfl
theorem fn28 : toFn Tryz.prog p28 Tryz.f28 = some c28 := by kernel_rfl
theorem fn30 : toFn Tryz.prog p30 Tryz.f30 = some c30 := by kernel_rfl
theorem fn31 : toFn Tryz.prog p31 Tryz.f31 = some c31 := by kernel_rfl
theorem fn32 : toFn Tryz.prog p32 Tryz.f32 = some c32 := by kernel_rfl
theorem fn34 : toFn Tryz.prog p34 Tryz.f34 = some c34 := by kernel_rfl
theorem fn35 : toFn Tryz.prog p35 Tryz.f35 = some c35 := by kernel_rfl
theorem fn36 : toFn Tryz.prog p36 Tryz.f36 = some c36 := by kernel_rfl
theorem fn38 : toFn Tryz.prog p38 Tryz.f38 = some c38 := by kernel_rfl
theorem fn39 : toFn Tryz.prog p39 Tryz.f39 = some c39 := by kernel_rfl
theorem fn40 : toFn Tryz.prog p40 Tryz.f40 = some c40 := by kernel_rfl
theorem fn44 : toFn Tryz.prog p44 Tryz.f44 = some c44 := by kernel_rfl
theorem fn45 : toFn Tryz.prog p45 Tryz.f45 = some c45 := by kernel_rfl
theorem fn46 : toFn Tryz.prog p46 Tryz.f46 = some c46 := by kernel_rfl
theorem fn47 : toFn Tryz.prog p47 Tryz.f47 = some c47 := by kernel_rfl
theorem fn49 : toFn Tryz.prog p49 Tryz.f49 = some c49 := by kernel_rfl
theorem fn50 : toFn Tryz.prog p50 Tryz.f50 = some c50 := by kernel_rfl
theorem fn51 : toFn Tryz.prog p51 Tryz.f51 = some c51 := by kernel_rfl
theorem fn52 : toFn Tryz.prog p52 Tryz.f52 = some c52 := by kernel_rfl
theorem fn53 : toFn Tryz.prog p53 Tryz.f53 = some c53 := by kernel_rfl
theorem fn54 : toFn Tryz.prog p54 Tryz.f54 = some c54 := by kernel_rfl
theorem fn55 : toFn Tryz.prog p55 Tryz.f55 = some c55 := by kernel_rfl
theorem fn56 : toFn Tryz.prog p56 Tryz.f56 = some c56 := by kernel_rfl
theorem fn57 : toFn Tryz.prog p57 Tryz.f57 = some c57 := by kernel_rfl
theorem fn58 : toFn Tryz.prog p58 Tryz.f58 = some c58 := by kernel_rfl
theorem fn59 : toFn Tryz.prog p59 Tryz.f59 = some c59 := by kernel_rfl
theorem fn60 : toFn Tryz.prog p60 Tryz.f60 = some c60 := by kernel_rfl
theorem fn61 : toFn Tryz.prog p61 Tryz.f61 = some c61 := by kernel_rfl
theorem fn62 : toFn Tryz.prog p62 Tryz.f62 = some c62 := by kernel_rfl
theorem fn63 : toFn Tryz.prog p63 Tryz.f63 = some c63 := by kernel_rfl
theorem fn64 : toFn Tryz.prog p64 Tryz.f64 = some c64 := by kernel_rfl
theorem fn65 : toFn Tryz.prog p65 Tryz.f65 = some c65 := by kernel_rfl
theorem fn66 : toFn Tryz.prog p66 Tryz.f66 = some c66 := by kernel_rfl
theorem fn70 : toFn Tryz.prog p70 Tryz.f70 = some c70 := by kernel_rfl
theorem fn71 : toFn Tryz.prog p71 Tryz.f71 = some c71 := by kernel_rfl
theorem fn72 : toFn Tryz.prog p72 Tryz.f72 = some c72 := by kernel_rfl
theorem fn73 : toFn Tryz.prog p73 Tryz.f73 = some c73 := by kernel_rfl
theorem fn74 : toFn Tryz.prog p74 Tryz.f74 = some c74 := by kernel_rfl
theorem fn75 : toFn Tryz.prog p75 Tryz.f75 = some c75 := by kernel_rfl
theorem fn76 : toFn Tryz.prog p76 Tryz.f76 = some c76 := by kernel_rfl
theorem fn77 : toFn Tryz.prog p77 Tryz.f77 = some c77 := by kernel_rfl
theorem fn78 : toFn Tryz.prog p78 Tryz.f78 = some c78 := by kernel_rfl
theorem fn79 : toFn Tryz.prog p79 Tryz.f79 = some c79 := by kernel_rfl
theorem fn80 : toFn Tryz.prog p80 Tryz.f80 = some c80 := by kernel_rfl
theorem fn81 : toFn Tryz.prog p81 Tryz.f81 = some c81 := by kernel_rfl
theorem fn82 : toFn Tryz.prog p82 Tryz.f82 = some c82 := by kernel_rfl
theorem fn83 : toFn Tryz.prog p83 Tryz.f83 = some c83 := by kernel_rfl
theorem fn84 : toFn Tryz.prog p84 Tryz.f84 = some c84 := by kernel_rfl
theorem fn85 : toFn Tryz.prog p85 Tryz.f85 = some c85 := by kernel_rfl
theorem fn86 : toFn Tryz.prog p86 Tryz.f86 = some c86 := by kernel_rfl
theorem fn87 : toFn Tryz.prog p87 Tryz.f87 = some c87 := by kernel_rfl
theorem fn88 : toFn Tryz.prog p88 Tryz.f88 = some c88 := by kernel_rfl
theorem fn89 : toFn Tryz.prog p89 Tryz.f89 = some c89 := by kernel_rfl
theorem fn90 : toFn Tryz.prog p90 Tryz.f90 = some c90 := by kernel_rfl
theorem fn91 : toFn Tryz.prog p91 Tryz.f91 = some c91 := by kernel_rfl
theorem fn92 : toFn Tryz.prog p92 Tryz.f92 = some c92 := by kernel_rfl
theorem fn93 : toFn Tryz.prog p93 Tryz.f93 = some c93 := by kernel_rfl
theorem fn94 : toFn Tryz.prog p94 Tryz.f94 = some c94 := by kernel_rfl
theorem fn95 : toFn Tryz.prog p95 Tryz.f95 = some c95 := by kernel_rfl
theorem fn96 : toFn Tryz.prog p96 Tryz.f96 = some c96 := by kernel_rfl
theorem fn97 : toFn Tryz.prog p97 Tryz.f97 = some c97 := by kernel_rfl
theorem fn98 : toFn Tryz.prog p98 Tryz.f98 = some c98 := by kernel_rfl
theorem fn99 : toFn Tryz.prog p99 Tryz.f99 = some c99 := by kernel_rfl
theorem fn100 : toFn Tryz.prog p100 Tryz.f100 = some c100 := by kernel_rfl
theorem fn101 : toFn Tryz.prog p101 Tryz.f101 = some c101 := by kernel_rfl
theorem fn117 : toFn Tryz.prog p117 Tryz.f117 = some c117 := by kernel_rfl
theorem fn118 : toFn Tryz.prog p118 Tryz.f118 = some c118 := by kernel_rfl
theorem fn119 : toFn Tryz.prog p119 Tryz.f119 = some c119 := by kernel_rfl
theorem fn120 : toFn Tryz.prog p120 Tryz.f120 = some c120 := by kernel_rfl
theorem fn121 : toFn Tryz.prog p121 Tryz.f121 = some c121 := by kernel_rfl
theorem fn126 : toFn Tryz.prog p126 Tryz.f126 = some c126 := by kernel_rfl
theorem fn127 : toFn Tryz.prog p127 Tryz.f127 = some c127 := by kernel_rfl
theorem fn128 : toFn Tryz.prog p128 Tryz.f128 = some c128 := by kernel_rfl
theorem fn129 : toFn Tryz.prog p129 Tryz.f129 = some c129 := by kernel_rfl
theorem fn130 : toFn Tryz.prog p130 Tryz.f130 = some c130 := by kernel_rfl
theorem fn131 : toFn Tryz.prog p131 Tryz.f131 = some c131 := by kernel_rfl
theorem fn132 : toFn Tryz.prog p132 Tryz.f132 = some c132 := by kernel_rfl
theorem fn134 : toFn Tryz.prog p134 Tryz.f134 = some c134 := by kernel_rfl
theorem fn135 : toFn Tryz.prog p135 Tryz.f135 = some c135 := by kernel_rfl
theorem fn136 : toFn Tryz.prog p136 Tryz.f136 = some c136 := by kernel_rfl
theorem fn139 : toFn Tryz.prog p139 Tryz.f139 = some c139 := by kernel_rfl
theorem fn141 : toFn Tryz.prog p141 Tryz.f141 = some c141 := by kernel_rfl
theorem fn142 : toFn Tryz.prog p142 Tryz.f142 = some c142 := by kernel_rfl
theorem fn144 : toFn Tryz.prog p144 Tryz.f144 = some c144 := by kernel_rfl
theorem fn145 : toFn Tryz.prog p145 Tryz.f145 = some c145 := by kernel_rfl
theorem fn147 : toFn Tryz.prog p147 Tryz.f147 = some c147 := by kernel_rfl
theorem fn148 : toFn Tryz.prog p148 Tryz.f148 = some c148 := by kernel_rfl
theorem fn150 : toFn Tryz.prog p150 Tryz.f150 = some c150 := by kernel_rfl
theorem fn151 : toFn Tryz.prog p151 Tryz.f151 = some c151 := by kernel_rfl
theorem fn155 : toFn Tryz.prog p155 Tryz.f155 = some c155 := by kernel_rfl
theorem fn156 : toFn Tryz.prog p156 Tryz.f156 = some c156 := by kernel_rfl
theorem fn157 : toFn Tryz.prog p157 Tryz.f157 = some c157 := by kernel_rfl
theorem fn158 : toFn Tryz.prog p158 Tryz.f158 = some c158 := by kernel_rfl
theorem fn159 : toFn Tryz.prog p159 Tryz.f159 = some c159 := by kernel_rfl
theorem fn160 : toFn Tryz.prog p160 Tryz.f160 = some c160 := by kernel_rfl
theorem fn165 : toFn Tryz.prog p165 Tryz.f165 = some c165 := by kernel_rfl
theorem fn166 : toFn Tryz.prog p166 Tryz.f166 = some c166 := by kernel_rfl
theorem fn168 : toFn Tryz.prog p168 Tryz.f168 = some c168 := by kernel_rfl
theorem fn171 : toFn Tryz.prog p171 Tryz.f171 = some c171 := by kernel_rfl
theorem fn172 : toFn Tryz.prog p172 Tryz.f172 = some c172 := by kernel_rfl
theorem fn173 : toFn Tryz.prog p173 Tryz.f173 = some c173 := by kernel_rfl
theorem fn174 : toFn Tryz.prog p174 Tryz.f174 = some c174 := by kernel_rfl
theorem fn175 : toFn Tryz.prog p175 Tryz.f175 = some c175 := by kernel_rfl
theorem fn176 : toFn Tryz.prog p176 Tryz.f176 = some c176 := by kernel_rfl
theorem fn177 : toFn Tryz.prog p177 Tryz.f177 = some c177 := by kernel_rfl
theorem fn178 : toFn Tryz.prog p178 Tryz.f178 = some c178 := by kernel_rfl
theorem fn179 : toFn Tryz.prog p179 Tryz.f179 = some c179 := by kernel_rfl
theorem fn180 : toFn Tryz.prog p180 Tryz.f180 = some c180 := by kernel_rfl
theorem fn181 : toFn Tryz.prog p181 Tryz.f181 = some c181 := by kernel_rfl
theorem fn182 : toFn Tryz.prog p182 Tryz.f182 = some c182 := by kernel_rfl
theorem fn183 : toFn Tryz.prog p183 Tryz.f183 = some c183 := by kernel_rfl
theorem fn184 : toFn Tryz.prog p184 Tryz.f184 = some c184 := by kernel_rfl
theorem fn185 : toFn Tryz.prog p185 Tryz.f185 = some c185 := by kernel_rfl
theorem fn186 : toFn Tryz.prog p186 Tryz.f186 = some c186 := by kernel_rfl
theorem fn187 : toFn Tryz.prog p187 Tryz.f187 = some c187 := by kernel_rfl
theorem fn188 : toFn Tryz.prog p188 Tryz.f188 = some c188 := by kernel_rfl
theorem fn189 : toFn Tryz.prog p189 Tryz.f189 = some c189 := by kernel_rfl
theorem fn190 : toFn Tryz.prog p190 Tryz.f190 = some c190 := by kernel_rfl
end Go.Proofs.YtlakhgibjfmjjaaGreat.Can
namespace Go.Proofs.YtlakhgibjfmjjaaGreat.Can
open Go
theorem progs : Progs Tryz.prog cp := by
 intro f fn h
 unfold cp at h
 split at h
 ·obtain rfl := Option.some.inj h; exact ⟨p7, Tryz.f7, Tryz.func7, fn7⟩
 ·obtain rfl := Option.some.inj h; exact ⟨p11, Tryz.f11, Tryz.func11, fn11⟩
 ·obtain rfl := Option.some.inj h; exact ⟨p12, Tryz.f12, Tryz.func12, fn12⟩
 ·obtain rfl := Option.some.inj h; exact ⟨p13, Tryz.f13, Tryz.func13, fn13⟩
 ·obtain rfl := Option.some.inj h; exact ⟨p14, Tryz.f14, Tryz.func14, fn14⟩
 ·obtain rfl := Option.some.inj h; exact ⟨p15, Tryz.f15, Tryz.func15, fn15⟩
 ·obtain rfl := Option.some.inj h; exact ⟨p20, Tryz.f20, Tryz.func20, fn20⟩
 ·obtain rfl := Option.some.inj h; exact ⟨p21, Tryz.f21, Tryz.func21, fn21⟩
 ·obtain rfl := Option.some.inj h; exact ⟨p26, Tryz.f26, Tryz.func26, fn26⟩
 ·obtain rfl := Option.some.inj h; exact ⟨p27, Tryz.f27, Tryz.func27, fn27⟩
 ·obtain rfl := Option.some.inj h; exact ⟨p28, Tryz.f28, Tryz.func28, fn28⟩
 ·obtain rfl := Option.some.inj h; exact ⟨p30, Tryz.f30, Tryz.func30, fn30⟩
 ·obtain rfl := Option.some.inj h; exact ⟨p31, Tryz.f31, Tryz.func31, fn31⟩
 ·obtain rfl := Option.some.inj h; exact ⟨p32, Tryz.f32, Tryz.func32, fn32⟩
 ·obtain rfl := Option.some.inj h; exact ⟨p34, Tryz.f34, Tryz.func34, fn34⟩
 ·obtain rfl := Option.some.inj h; exact ⟨p35, Tryz.f35, Tryz.func35, fn35⟩
 ·obtain rfl := Option.some.inj h; exact ⟨p36, Tryz.f36, Tryz.func36, fn36⟩
 ·obtain rfl := Option.some.inj h; exact ⟨p38, Tryz.f38, Tryz.func38, fn38⟩
 ·obtain rfl := Option.some.inj h; exact ⟨p39, Tryz.f39, Tryz.func39, fn39⟩
 ·obtain rfl := Option.some.inj h; exact ⟨p40, Tryz.f40, Tryz.func40, fn40⟩
 ·obtain rfl := Option.some.inj h; exact ⟨p44, Tryz.f44, Tryz.func44, fn44⟩
 ·obtain rfl := Option.some.inj h; exact ⟨p45, Tryz.f45, Tryz.func45, fn45⟩
 ·obtain rfl := Option.some.inj h; exact ⟨p46, Tryz.f46, Tryz.func46, fn46⟩
 ·obtain rfl := Option.some.inj h; exact ⟨p47, Tryz.f47, Tryz.func47, fn47⟩
 ·obtain rfl := Option.some.inj h; exact ⟨p49, Tryz.f49, Tryz.func49, fn49⟩
 ·obtain rfl := Option.some.inj h; exact ⟨p50, Tryz.f50, Tryz.func50, fn50⟩
 ·obtain rfl := Option.some.inj h; exact ⟨p51, Tryz.f51, Tryz.func51, fn51⟩
 ·obtain rfl := Option.some.inj h; exact ⟨p52, Tryz.f52, Tryz.func52, fn52⟩
 ·obtain rfl := Option.some.inj h; exact ⟨p53, Tryz.f53, Tryz.func53, fn53⟩
 ·obtain rfl := Option.some.inj h; exact ⟨p54, Tryz.f54, Tryz.func54, fn54⟩
 ·obtain rfl := Option.some.inj h; exact ⟨p55, Tryz.f55, Tryz.func55, fn55⟩
 ·obtain rfl := Option.some.inj h; exact ⟨p56, Tryz.f56, Tryz.func56, fn56⟩
 ·obtain rfl := Option.some.inj h; exact ⟨p57, Tryz.f57, Tryz.func57, fn57⟩
 ·obtain rfl := Option.some.inj h; exact ⟨p58, Tryz.f58, Tryz.func58, fn58⟩
 ·obtain rfl := Option.some.inj h; exact ⟨p59, Tryz.f59, Tryz.func59, fn59⟩
 ·obtain rfl := Option.some.inj h; exact ⟨p60, Tryz.f60, Tryz.func60, fn60⟩
 ·obtain rfl := Option.some.inj h; exact ⟨p61, Tryz.f61, Tryz.func61, fn61⟩
 ·obtain rfl := Option.some.inj h; exact ⟨p62, Tryz.f62, Tryz.func62, fn62⟩
 ·obtain rfl := Option.some.inj h; exact ⟨p63, Tryz.f63, Tryz.func63, fn63⟩
 ·obtain rfl := Option.some.inj h; exact ⟨p64, Tryz.f64, Tryz.func64, fn64⟩
 ·obtain rfl := Option.some.inj h; exact ⟨p65, Tryz.f65, Tryz.func65, fn65⟩
 ·obtain rfl := Option.some.inj h; exact ⟨p66, Tryz.f66, Tryz.func66, fn66⟩
 ·obtain rfl := Option.some.inj h; exact ⟨p70, Tryz.f70, Tryz.func70, fn70⟩
 ·obtain rfl := Option.some.inj h; exact ⟨p71, Tryz.f71, Tryz.func71, fn71⟩
 ·obtain rfl := Option.some.inj h; exact ⟨p72, Tryz.f72, Tryz.func72, fn72⟩
 ·obtain rfl := Option.some.inj h; exact ⟨p73, Tryz.f73, Tryz.func73, fn73⟩
 ·obtain rfl := Option.some.inj h; exact ⟨p74, Tryz.f74, Tryz.func74, fn74⟩
 ·obtain rfl := Option.some.inj h; exact ⟨p75, Tryz.f75, Tryz.func75, fn75⟩
 ·obtain rfl := Option.some.inj h; exact ⟨p76, Tryz.f76, Tryz.func76, fn76⟩
 ·obtain rfl := Option.some.inj h; exact ⟨p77, Tryz.f77, Tryz.func77, fn77⟩
 ·obtain rfl := Option.some.inj h; exact ⟨p78, Tryz.f78, Tryz.func78, fn78⟩
 ·obtain rfl := Option.some.inj h; exact ⟨p79, Tryz.f79, Tryz.func79, fn79⟩
 ·obtain rfl := Option.some.inj h; exact ⟨p80, Tryz.f80, Tryz.func80, fn80⟩
 ·obtain rfl := Option.some.inj h; exact ⟨p81, Tryz.f81, Tryz.func81, fn81⟩
 ·obtain rfl := Option.some.inj h; exact ⟨p82, Tryz.f82, Tryz.func82, fn82⟩
 ·obtain rfl := Option.some.inj h; exact ⟨p83, Tryz.f83, Tryz.func83, fn83⟩
 ·obtain rfl := Option.some.inj h; exact ⟨p84, Tryz.f84, Tryz.func84, fn84⟩
 ·obtain rfl := Option.some.inj h; exact ⟨p85, Tryz.f85, Tryz.func85, fn85⟩
 ·obtain rfl := Option.some.inj h; exact ⟨p86, Tryz.f86, Tryz.func86, fn86⟩
 ·obtain rfl := Option.some.inj h; exact ⟨p87, Tryz.f87, Tryz.func87, fn87⟩
 ·obtain rfl := Option.some.inj h; exact ⟨p88, Tryz.f88, Tryz.func88, fn88⟩
 ·obtain rfl := Option.some.inj h; exact ⟨p89, Tryz.f89, Tryz.func89, fn89⟩
 ·obtain rfl := Option.some.inj h; exact ⟨p90, Tryz.f90, Tryz.func90, fn90⟩
 ·obtain rfl := Option.some.inj h; exact ⟨p91, Tryz.f91, Tryz.func91, fn91⟩
 ·obtain rfl := Option.some.inj h; exact ⟨p92, Tryz.f92, Tryz.func92, fn92⟩
 ·obtain rfl := Option.some.inj h; exact ⟨p93, Tryz.f93, Tryz.func93, fn93⟩
 ·obtain rfl := Option.some.inj h; exact ⟨p94, Tryz.f94, Tryz.func94, fn94⟩
 ·obtain rfl := Option.some.inj h; exact ⟨p95, Tryz.f95, Tryz.func95, fn95⟩
 ·obtain rfl := Option.some.inj h; exact ⟨p96, Tryz.f96, Tryz.func96, fn96⟩
 ·obtain rfl := Option.some.inj h; exact ⟨p97, Tryz.f97, Tryz.func97, fn97⟩
 ·obtain rfl := Option.some.inj h; exact ⟨p98, Tryz.f98, Tryz.func98, fn98⟩
 ·obtain rfl := Option.some.inj h; exact ⟨p99, Tryz.f99, Tryz.func99, fn99⟩
 ·obtain rfl := Option.some.inj h; exact ⟨p100, Tryz.f100, Tryz.func100, fn100⟩
 ·obtain rfl := Option.some.inj h; exact ⟨p101, Tryz.f101, Tryz.func101, fn101⟩
 ·obtain rfl := Option.some.inj h; exact ⟨p117, Tryz.f117, Tryz.func117, fn117⟩
 ·obtain rfl := Option.some.inj h; exact ⟨p118, Tryz.f118, Tryz.func118, fn118⟩
 ·obtain rfl := Option.some.inj h; exact ⟨p119, Tryz.f119, Tryz.func119, fn119⟩
 ·obtain rfl := Option.some.inj h; exact ⟨p120, Tryz.f120, Tryz.func120, fn120⟩
 ·obtain rfl := Option.some.inj h; exact ⟨p121, Tryz.f121, Tryz.func121, fn121⟩
 ·obtain rfl := Option.some.inj h; exact ⟨p126, Tryz.f126, Tryz.func126, fn126⟩
 ·obtain rfl := Option.some.inj h; exact ⟨p127, Tryz.f127, Tryz.func127, fn127⟩
 ·obtain rfl := Option.some.inj h; exact ⟨p128, Tryz.f128, Tryz.func128, fn128⟩
 ·obtain rfl := Option.some.inj h; exact ⟨p129, Tryz.f129, Tryz.func129, fn129⟩
 ·obtain rfl := Option.some.inj h; exact ⟨p130, Tryz.f130, Tryz.func130, fn130⟩
 ·obtain rfl := Option.some.inj h; exact ⟨p131, Tryz.f131, Tryz.func131, fn131⟩
 ·obtain rfl := Option.some.inj h; exact ⟨p132, Tryz.f132, Tryz.func132, fn132⟩
 ·obtain rfl := Option.some.inj h; exact ⟨p134, Tryz.f134, Tryz.func134, fn134⟩
 ·obtain rfl := Option.some.inj h; exact ⟨p135, Tryz.f135, Tryz.func135, fn135⟩
 ·obtain rfl := Option.some.inj h; exact ⟨p136, Tryz.f136, Tryz.func136, fn136⟩
 ·obtain rfl := Option.some.inj h; exact ⟨p139, Tryz.f139, Tryz.func139, fn139⟩
 ·obtain rfl := Option.some.inj h; exact ⟨p141, Tryz.f141, Tryz.func141, fn141⟩
 ·obtain rfl := Option.some.inj h; exact ⟨p142, Tryz.f142, Tryz.func142, fn142⟩
 ·obtain rfl := Option.some.inj h; exact ⟨p144, Tryz.f144, Tryz.func144, fn144⟩
 ·obtain rfl := Option.some.inj h; exact ⟨p145, Tryz.f145, Tryz.func145, fn145⟩
 ·obtain rfl := Option.some.inj h; exact ⟨p147, Tryz.f147, Tryz.func147, fn147⟩
 ·obtain rfl := Option.some.inj h; exact ⟨p148, Tryz.f148, Tryz.func148, fn148⟩
 ·obtain rfl := Option.some.inj h; exact ⟨p150, Tryz.f150, Tryz.func150, fn150⟩
 ·obtain rfl := Option.some.inj h; exact ⟨p151, Tryz.f151, Tryz.func151, fn151⟩
 ·obtain rfl := Option.some.inj h; exact ⟨p155, Tryz.f155, Tryz.func155, fn155⟩
 ·obtain rfl := Option.some.inj h; exact ⟨p156, Tryz.f156, Tryz.func156, fn156⟩
 ·obtain rfl := Option.some.inj h; exact ⟨p157, Tryz.f157, Tryz.func157, fn157⟩
 ·obtain rfl := Option.some.inj h; exact ⟨p158, Tryz.f158, Tryz.func158, fn158⟩
 ·obtain rfl := Option.some.inj h; exact ⟨p159, Tryz.f159, Tryz.func159, fn159⟩
 ·obtain rfl := Option.some.inj h; exact ⟨p160, Tryz.f160, Tryz.func160, fn160⟩
 ·obtain rfl := Option.some.inj h; exact ⟨p165, Tryz.f165, Tryz.func165, fn165⟩
 ·obtain rfl := Option.some.inj h; exact ⟨p166, Tryz.f166, Tryz.func166, fn166⟩
 ·obtain rfl := Option.some.inj h; exact ⟨p168, Tryz.f168, Tryz.func168, fn168⟩
 ·obtain rfl := Option.some.inj h; exact ⟨p171, Tryz.f171, Tryz.func171, fn171⟩
 ·obtain rfl := Option.some.inj h; exact ⟨p172, Tryz.f172, Tryz.func172, fn172⟩
 ·obtain rfl := Option.some.inj h; exact ⟨p173, Tryz.f173, Tryz.func173, fn173⟩
 ·obtain rfl := Option.some.inj h; exact ⟨p174, Tryz.f174, Tryz.func174, fn174⟩
 ·obtain rfl := Option.some.inj h; exact ⟨p175, Tryz.f175, Tryz.func175, fn175⟩
 ·obtain rfl := Option.some.inj h; exact ⟨p176, Tryz.f176, Tryz.func176, fn176⟩
 ·obtain rfl := Option.some.inj h; exact ⟨p177, Tryz.f177, Tryz.func177, fn177⟩
 ·obtain rfl := Option.some.inj h; exact ⟨p178, Tryz.f178, Tryz.func178, fn178⟩
 ·obtain rfl := Option.some.inj h; exact ⟨p179, Tryz.f179, Tryz.func179, fn179⟩
 ·obtain rfl := Option.some.inj h; exact ⟨p180, Tryz.f180, Tryz.func180, fn180⟩
 ·obtain rfl := Option.some.inj h; exact ⟨p181, Tryz.f181, Tryz.func181, fn181⟩
 ·obtain rfl := Option.some.inj h; exact ⟨p182, Tryz.f182, Tryz.func182, fn182⟩
 ·obtain rfl := Option.some.inj h; exact ⟨p183, Tryz.f183, Tryz.func183, fn183⟩
 ·obtain rfl := Option.some.inj h; exact ⟨p184, Tryz.f184, Tryz.func184, fn184⟩
 ·obtain rfl := Option.some.inj h; exact ⟨p185, Tryz.f185, Tryz.func185, fn185⟩
 ·obtain rfl := Option.some.inj h; exact ⟨p186, Tryz.f186, Tryz.func186, fn186⟩
 ·obtain rfl := Option.some.inj h; exact ⟨p187, Tryz.f187, Tryz.func187, fn187⟩
 ·obtain rfl := Option.some.inj h; exact ⟨p188, Tryz.f188, Tryz.func188, fn188⟩
 ·obtain rfl := Option.some.inj h; exact ⟨p189, Tryz.f189, Tryz.func189, fn189⟩
 ·obtain rfl := Option.some.inj h; exact ⟨p190, Tryz.f190, Tryz.func190, fn190⟩
 ·simp at h
end Go.Proofs.YtlakhgibjfmjjaaGreat.Can
namespace Go.Proofs.YtlakhgibjfmjjaaGreat.Can
open Go
theorem wu64 (n : Int) : IntKind.u64.wrap n = n % 18446744073709551616 := by simp [IntKind.wrap, IntKind.bits, IntKind.signed]
theorem wu32 (n : Int) : IntKind.u32.wrap n = n % 4294967296 := by simp [IntKind.wrap, IntKind.bits, IntKind.signed]
theorem wu8 (n : Int) : IntKind.u8.wrap n = n % 256 := by simp [IntKind.wrap, IntKind.bits, IntKind.signed]
theorem wi64 (n : Int) : IntKind.i64.wrap n = (n + 9223372036854775808) % 18446744073709551616 - 9223372036854775808 := by
 show (if (true && decide (n % 18446744073709551616 ≥ 9223372036854775808)) = true then n % 18446744073709551616 - 18446744073709551616 else n % 18446744073709551616) = _
 simp only [Bool.true_and, decide_eq_true_eq]
 split <;> omega
theorem wi32 (n : Int) : IntKind.i32.wrap n = (n + 2147483648) % 4294967296 - 2147483648 := by
 show (if (true && decide (n % 4294967296 ≥ 2147483648)) = true then n % 4294967296 - 4294967296 else n % 4294967296) = _
 simp only [Bool.true_and, decide_eq_true_eq]
 split <;> omega
theorem wi8 (n : Int) : IntKind.i8.wrap n = (n + 128) % 256 - 128 := by
 show (if (true && decide (n % 256 ≥ 128)) = true then n % 256 - 256 else n % 256) = _
 simp only [Bool.true_and, decide_eq_true_eq]
 split <;> omega
def I64 (n : Int) : Prop := -9223372036854775808 ≤ n ∧ n ≤ 9223372036854775807
def U64 (n : Int) : Prop := 0 ≤ n ∧ n ≤ 18446744073709551615
instance (n : Int) : Decidable (I64 n) := by unfold I64; infer_instance
instance (n : Int) : Decidable (U64 n) := by unfold U64; infer_instance
theorem i64_in (n : Int) : I64 (IntKind.i64.wrap n) := by unfold I64; rw [wi64]; omega
theorem u64_in (n : Int) : U64 (IntKind.u64.wrap n) := by unfold U64; rw [wu64]; omega
theorem wf_i64 {a : Int} (h : (Lit.int .i64 a).wf = true) : I64 a := by
 simp only [Lit.wf, IntKind.min, IntKind.max, IntKind.signed, IntKind.bits, Bool.and_eq_true, decide_eq_true_eq] at h
 simp at h
 unfold I64; omega
theorem wf_u64 {a : Int} (h : (Lit.int .u64 a).wf = true) : U64 a := by
 simp [Lit.wf, IntKind.min, IntKind.max, IntKind.signed, IntKind.bits] at h
 unfold U64; omega
theorem wf_u8 {a : Int} (h : (Lit.int .u8 a).wf = true) : 0 ≤ a ∧ a ≤ 255 := by
 simp [Lit.wf, IntKind.min, IntKind.max, IntKind.signed, IntKind.bits] at h
 omega
theorem and_mask (k : IntKind) (i : Nat) (hi : i ≤ k.bits) (hk : ∀ n : Int, 0 ≤ n → n < 2 ^ i → k.wrap n = n) (x : Int) :
  k.wrap ((BitVec.ofInt k.bits x &&& BitVec.ofInt k.bits (2 ^ i - 1)).toNat : Int) = x % 2 ^ i := by
 have hp : (2 : Nat) ^ i ≤ 2 ^ k.bits := Nat.pow_le_pow_right (by decide) hi
 have hpos : 0 < 2 ^ i := Nat.two_pow_pos i
 have hc : ((2 : Int) ^ i - 1) = ((2 ^ i - 1 : Nat) : Int) := by rw [Int.natCast_sub hpos]; simp
 rw [hc]
 simp only [BitVec.ofInt_natCast, BitVec.toNat_and, BitVec.toNat_ofNat, BitVec.toNat_ofInt]
 rw [Nat.mod_eq_of_lt (a := 2 ^ i - 1) (by omega), Nat.and_two_pow_sub_one_eq_mod]
 have e : (((x % ((2 ^ k.bits : Nat) : Int)).toNat % 2 ^ i : Nat) : Int) = x % 2 ^ i := by
  have hb : (0 : Int) < ((2 ^ k.bits : Nat) : Int) := by exact_mod_cast Nat.two_pow_pos k.bits
  have h0 : 0 ≤ x % ((2 ^ k.bits : Nat) : Int) := Int.emod_nonneg _ (by omega)
  rw [Int.natCast_emod, Int.toNat_of_nonneg h0]
  have hd : ((2 ^ i : Nat) : Int) ∣ ((2 ^ k.bits : Nat) : Int) := by
   exact_mod_cast Nat.pow_dvd_pow 2 hi
  rw [Int.emod_emod_of_dvd _ hd]
  simp
 rw [e]
 have h2 : (0 : Int) < 2 ^ i := by exact_mod_cast hpos
 exact hk _ (Int.emod_nonneg _ (by omega)) (Int.emod_lt_of_pos _ h2)
theorem u64_low (i : Nat) (hi : i ≤ 64) : ∀ n : Int, 0 ≤ n → n < 2 ^ i → IntKind.u64.wrap n = n := fun n h0 h1 => by
 have : (2 : Nat) ^ i ≤ 2 ^ 64 := Nat.pow_le_pow_right (by decide) hi
 have h2 : (2 : Int) ^ i ≤ 2 ^ 64 := by exact_mod_cast this
 rw [wu64]; omega
theorem i64_low (i : Nat) (hi : i ≤ 63) : ∀ n : Int, 0 ≤ n → n < 2 ^ i → IntKind.i64.wrap n = n := fun n h0 h1 => by
 have : (2 : Nat) ^ i ≤ 2 ^ 63 := Nat.pow_le_pow_right (by decide) hi
 have h2 : (2 : Int) ^ i ≤ 2 ^ 63 := by exact_mod_cast this
 rw [wi64]; omega
theorem and_u64 (i : Nat) (hi : i ≤ 64) (x m : Int) (hm : m = 2 ^ i - 1) : IntKind.u64.wrap ((BitVec.ofInt IntKind.u64.bits x &&& BitVec.ofInt IntKind.u64.bits m).toNat : Int) = x % 2 ^ i := by
 rw [hm]; exact and_mask .u64 i hi (u64_low i hi) x
theorem and_i64 (i : Nat) (hi : i ≤ 63) (x m : Int) (hm : m = 2 ^ i - 1) : IntKind.i64.wrap ((BitVec.ofInt IntKind.i64.bits x &&& BitVec.ofInt IntKind.i64.bits m).toNat : Int) = x % 2 ^ i := by
 rw [hm]; exact and_mask .i64 i (by show i ≤ 64; omega) (i64_low i hi) x
theorem shr_k (k : IntKind) (x : Int) (n : Nat) (h : n ≤ k.bits) : x.fdiv (2 ^ (min n k.bits)) = x / 2 ^ n := by
 rw [Nat.min_eq_left h, Int.fdiv_eq_ediv_of_nonneg _ (by exact_mod_cast Nat.zero_le _)]
theorem shl_k (k : IntKind) (x : Int) (n : Nat) (h : n ≤ k.bits) : x * 2 ^ (min n k.bits) = x * 2 ^ n := by
 rw [Nat.min_eq_left h]
theorem tmod_nn (a b : Int) (h : 0 ≤ a) : Int.tmod a b = a % b := Int.tmod_eq_emod_of_nonneg h
theorem tdiv_nn (a b : Int) (h : 0 ≤ a) : Int.tdiv a b = a / b := Int.tdiv_eq_ediv_of_nonneg h
theorem halves (a1 a0 b1 b0 p00 p01 p10 p11 : Int) (h00 : p00 = a0 * b0) (h01 : p01 = a0 * b1) (h10 : p10 = a1 * b0) (h11 : p11 = a1 * b1) :
  (a1 * 4294967296 + a0) * (b1 * 4294967296 + b0) = p11 * 18446744073709551616 + (p10 + p01) * 4294967296 + p00 := by
 subst h00 h01 h10 h11
 simp only [Int.add_mul, Int.mul_add]
 have e1 : a1 * 4294967296 * (b1 * 4294967296) = a1 * b1 * 18446744073709551616 := by
  rw [Int.mul_assoc, Int.mul_left_comm 4294967296 b1, ← Int.mul_assoc]; rfl
 have e2 : a0 * (b1 * 4294967296) = a0 * b1 * 4294967296 := (Int.mul_assoc ..).symm
 have e3 : a1 * 4294967296 * b0 = a1 * b0 * 4294967296 := by rw [Int.mul_assoc, Int.mul_comm 4294967296 b0, ← Int.mul_assoc]
 rw [e1, e2, e3]
 omega
theorem mul_range (x y m : Int) (hx0 : 0 ≤ x) (hx : x ≤ m) (hy0 : 0 ≤ y) (hy : y ≤ m) : 0 ≤ x * y ∧ x * y ≤ m * m :=
 ⟨Int.mul_nonneg hx0 hy0, Int.mul_le_mul hx hy hy0 (by omega)⟩
theorem upper (a b p00 p01 p10 p11 : Int) (ha0 : 0 ≤ a) (ha : a < 18446744073709551616) (hb0 : 0 ≤ b) (hb : b < 18446744073709551616)
  (h00 : p00 = (a % 4294967296) * (b % 4294967296)) (h01 : p01 = (a % 4294967296) * (b / 4294967296)) (h10 : p10 = (a / 4294967296) * (b % 4294967296)) (h11 : p11 = (a / 4294967296) * (b / 4294967296)) :
  a * b = p11 * 18446744073709551616 + (p10 + p01) * 4294967296 + p00 ∧ (0 ≤ p00 ∧ p00 ≤ 18446744065119617025) ∧ (0 ≤ p01 ∧ p01 ≤ 18446744065119617025) ∧ (0 ≤ p10 ∧ p10 ≤ 18446744065119617025) ∧ 0 ≤ p11 ∧ p11 ≤ 18446744065119617025 := by
 have e := halves (a / 4294967296) (a % 4294967296) (b / 4294967296) (b % 4294967296) p00 p01 p10 p11 h00 h01 h10 h11
 have ea : a / 4294967296 * 4294967296 + a % 4294967296 = a := by omega
 have eb : b / 4294967296 * 4294967296 + b % 4294967296 = b := by omega
 rw [ea, eb] at e
 refine ⟨e, ?_, ?_, ?_, ?_⟩
 ·rw [h00]; exact mul_range _ _ 4294967295 (by omega) (by omega) (by omega) (by omega)
 ·rw [h01]; exact mul_range _ _ 4294967295 (by omega) (by omega) (by omega) (by omega)
 ·rw [h10]; exact mul_range _ _ 4294967295 (by omega) (by omega) (by omega) (by omega)
 ·rw [h11]; exact mul_range _ _ 4294967295 (by omega) (by omega) (by omega) (by omega)
theorem mul64_is (a b : Int) (ha : U64 a) (hb : U64 b) :
  (a / 4294967296 * (b / 4294967296) % 18446744073709551616 + (a / 4294967296 * (b % 4294967296) % 18446744073709551616 + a % 4294967296 * (b % 4294967296) % 18446744073709551616 / 4294967296) % 18446744073709551616 / 4294967296) % 18446744073709551616 +
   ((a / 4294967296 * (b % 4294967296) % 18446744073709551616 + a % 4294967296 * (b % 4294967296) % 18446744073709551616 / 4294967296) % 18446744073709551616 % 4294967296 + a % 4294967296 * (b / 4294967296) % 18446744073709551616) % 18446744073709551616 / 4294967296 = a * b / 18446744073709551616 := by
 unfold U64 at ha hb
 obtain ⟨e, h0, h1, h2, h3⟩ := upper a b _ _ _ _ ha.1 (by omega) hb.1 (by omega) rfl rfl rfl rfl
 generalize a % 4294967296 * (b % 4294967296) = p00 at *
 generalize a % 4294967296 * (b / 4294967296) = p01 at *
 generalize a / 4294967296 * (b % 4294967296) = p10 at *
 generalize a / 4294967296 * (b / 4294967296) = p11 at *
 rw [e]
 omega
end Go.Proofs.YtlakhgibjfmjjaaGreat.Can
namespace Go.Proofs.YtlakhgibjfmjjaaGreat.Can
open Go
attribute [local congr] RunR_congr RunC_congr afterR_congr guardR_congr condQ_congr CALL_congr finQ_congr op_congr opg_congr
theorem mul64_ok (h : Heap) (a b : Int) (ha : U64 a) (hb : U64 b) (Q : Value → Heap → Prop) : CALL cp 85 [.int .u64 a, .int .u64 b] h Q ↔ Q (.tuple #[.int .u64 (a * b / 18446744073709551616), .int .u64 (a * b % 18446744073709551616)]) h := by
 refine CALL_det ?_ Q
 rw [CALL_enter cp cp85]
 have m1 := fun x : Int => and_u64 32 (by decide) x 4294967295 (by decide)
 have s1 := fun x : Int => shr_k .u64 x 32 (by decide)
 have p32 : (2 : Int) ^ 32 = 4294967296 := by decide
 simp (disch := omega) only [c85, ↓R85, m1, s1, wu64, p32, ↓RnP, RnQ, Nat.reduceEqDiff, Nat.reduceAdd, Nat.reduceMul, Nat.reduceSub, Nat.reduceLT, Nat.reduceLeDiff, Nat.reduceBEq, Int.reduceLT, Int.reduceLE, reduceCtorEq, Int.reduceToNat, Int.reduceAdd, Int.reduceSub, Int.reduceMul]
 have e := mul64_is a b ha hb
 have h2 : 0 ≤ a * b / 18446744073709551616 ∧ a * b / 18446744073709551616 < 18446744073709551616 := by
  unfold U64 at ha hb
  have := mul_range a b 18446744073709551615 ha.1 ha.2 hb.1 hb.2
  omega
 rw [e, Int.emod_eq_of_lt h2.1 h2.2]
theorem i64_conv (n : Int) (h : I64 n) : IntKind.i64.wrap n = n := by unfold I64 at h; exact wrap_i64 h.1 h.2
theorem add_fits (a b : Int) (ha : I64 a) (hb : I64 b) : (decide (IntKind.i64.wrap (a + b) > a) == decide (b > 0)) = decide (I64 (a + b)) := by
 unfold I64 at *
 rw [wi64]
 by_cases h : -9223372036854775808 ≤ a + b ∧ a + b ≤ 9223372036854775807
 ·rw [decide_eq_true h, beq_iff_eq, decide_eq_decide]; omega
 ·rw [decide_eq_false h, beq_eq_false_iff_ne, ne_eq, decide_eq_decide]; omega
theorem add_ok (h : Heap) (a b : Int) (ha : I64 a) (hb : I64 b) (Q : Value → Heap → Prop) : CALL cp 144 [.int .i64 a, .int .i64 b] h Q ↔ Q (.tuple #[.int .i64 (IntKind.i64.wrap (a + b)), .bool (decide (I64 (a + b)))]) h := by
 refine CALL_det ?_ Q
 rw [CALL_enter cp cp144]
 simp (disch := omega) only [c144, ↓R144, ↓RnP, RnQ, Nat.reduceEqDiff, Nat.reduceAdd, Nat.reduceMul, Nat.reduceSub, Nat.reduceLT, Nat.reduceLeDiff, Nat.reduceBEq, Int.reduceLT, Int.reduceLE, reduceCtorEq, Int.reduceToNat, Int.reduceAdd, Int.reduceSub, Int.reduceMul]
 rw [add_fits a b ha hb]
 first | done | trivial
theorem end_ok (h : Heap) (b : Bool) (Q : Value → Heap → Prop) : CALL cp 145 [.bool b] h Q ↔ Q (.int .i64 (if b then -9223372036854775808 else 9223372036854775807)) h := by
 refine CALL_det ?_ Q
 rw [CALL_enter cp cp145]
 cases b <;> simp (disch := omega) only [c145, ↓R145, ↓RnP, RnQ, Nat.reduceEqDiff, Nat.reduceAdd, Nat.reduceMul, Nat.reduceSub, Nat.reduceLT, Nat.reduceLeDiff, Nat.reduceBEq, Int.reduceLT, Int.reduceLE, reduceCtorEq, Int.reduceToNat, Int.reduceAdd, Int.reduceSub, Int.reduceMul] <;> first | done | trivial
def near (n : Int) : Int := if n < -9223372036854775808 then -9223372036854775808 else if n > 9223372036854775807 then 9223372036854775807 else n
theorem near_in (n : Int) : I64 (near n) := by
 unfold near I64
 split
 ·omega
 ·split <;> omega
theorem near_eq {n : Int} (h : I64 n) : near n = n := by unfold I64 at h; unfold near; rw [if_neg (by omega), if_neg (by omega)]
theorem sum_ok (h : Heap) (a b : Int) (ha : I64 a) (hb : I64 b) (Q : Value → Heap → Prop) : CALL cp 126 [.int .i64 a, .int .i64 b] h Q ↔ Q (.int .i64 (near (a + b))) h := by
 refine CALL_det ?_ Q
 rw [CALL_enter cp cp126]
 have f1 := fun h => add_ok h a b ha hb
 by_cases hi : I64 (a + b)
 ·have a1 := decide_eq_true hi
  simp (disch := omega) only [c126, ↓R126, f1, a1, near_eq hi, i64_conv _ hi, ↓RnP, RnQ, Nat.reduceEqDiff, Nat.reduceAdd, Nat.reduceMul, Nat.reduceSub, Nat.reduceLT, Nat.reduceLeDiff, Nat.reduceBEq, Int.reduceLT, Int.reduceLE, reduceCtorEq, Int.reduceToNat, Int.reduceAdd, Int.reduceSub, Int.reduceMul]
  first | done | trivial
 ·have a1 := decide_eq_false hi
  simp (disch := omega) only [c126, ↓R126, f1, a1, end_ok, ↓RnP, RnQ, Nat.reduceEqDiff, Nat.reduceAdd, Nat.reduceMul, Nat.reduceSub, Nat.reduceLT, Nat.reduceLeDiff, Nat.reduceBEq, Int.reduceLT, Int.reduceLE, reduceCtorEq, Int.reduceToNat, Int.reduceAdd, Int.reduceSub, Int.reduceMul]
  unfold I64 at ha hb hi
  unfold near
  by_cases h0 : a < 0
  ·rw [decide_eq_true h0, if_pos rfl, if_pos (by omega)]
  ·rw [decide_eq_false h0, if_neg Bool.false_ne_true, if_neg (by omega), if_pos (by omega)]
def ceilD (W D : Int) : Int := if W % D = 0 then W / D else W / D + 1
theorem ceil_ok (h : Heap) (a b : Int) (ha : I64 a) (ha0 : 0 ≤ a) (hb : I64 b) (hb1 : 1 ≤ b) (Q : Value → Heap → Prop) : CALL cp 73 [.int .i64 a, .int .i64 b] h Q ↔ Q (.int .i64 (ceilD a b)) h := by
 refine CALL_det ?_ Q
 rw [CALL_enter cp cp73]
 unfold I64 at ha hb
 have a1 : decide (a < 0) = false := decide_eq_false (by omega)
 have a2 : decide (b < 1) = false := decide_eq_false (by omega)
 have n0 : (b = 0) = False := by simp; omega
 have q0 : 0 ≤ a / b := Int.ediv_nonneg ha0 (by omega)
 have q1 : a / b ≤ a := Int.ediv_le_self b ha0
 have r0 : 0 ≤ a % b := Int.emod_nonneg a (by omega)
 have r1 := Int.emod_lt_of_pos a (show 0 < b by omega)
 have t1 : a.tdiv b = a / b := tdiv_nn a b ha0
 have t2 : a.tmod b = a % b := tmod_nn a b ha0
 by_cases hr : a % b = 0
 ·have a3 : decide (a % b > 0) = false := decide_eq_false (by omega)
  simp (disch := omega) only [c73, ↓R73, a1, a2, a3, n0, t1, t2, ↓RnP, RnQ, Nat.reduceEqDiff, Nat.reduceAdd, Nat.reduceMul, Nat.reduceSub, Nat.reduceLT, Nat.reduceLeDiff, Nat.reduceBEq, Int.reduceLT, Int.reduceLE, reduceCtorEq, Int.reduceToNat, Int.reduceAdd, Int.reduceSub, Int.reduceMul]
  exact (by unfold ceilD; rw [if_pos hr])
 ·have a3 : decide (a % b > 0) = true := decide_eq_true (by omega)
  have q2 : a / b < a ∨ b = 1 := by
   by_cases hb2 : b = 1
   ·exact .inr hb2
   ·left
    have := Int.ediv_lt_self_of_pos_of_ne_one (x := a) (y := b) (by rcases Int.lt_or_eq_of_le ha0 with h | h; exact h; rw [← h] at hr; simp at hr) hb2
    omega
  have q3 : a / b + 1 ≤ 9223372036854775807 := by
   rcases q2 with h | h
   ·omega
   ·subst h; simp at hr
  simp (disch := omega) only [c73, ↓R73, a1, a2, a3, n0, t1, t2, ↓RnP, RnQ, Nat.reduceEqDiff, Nat.reduceAdd, Nat.reduceMul, Nat.reduceSub, Nat.reduceLT, Nat.reduceLeDiff, Nat.reduceBEq, Int.reduceLT, Int.reduceLE, reduceCtorEq, Int.reduceToNat, Int.reduceAdd, Int.reduceSub, Int.reduceMul]
  exact (by unfold ceilD; rw [if_neg hr])
theorem mul_fits (a b p : Int) (ha : I64 a) (hb : I64 b) (hp : p = a * b) :
  ∃ hi lo, a % 18446744073709551616 * (b % 18446744073709551616) / 18446744073709551616 = hi ∧ a % 18446744073709551616 * (b % 18446744073709551616) % 18446744073709551616 = lo ∧ U64 hi ∧ U64 lo ∧
   IntKind.i64.wrap lo = IntKind.i64.wrap p ∧
   ((let up := IntKind.i64.wrap hi; let up := if a < 0 then IntKind.i64.wrap (up - b) else up; let up := if b < 0 then IntKind.i64.wrap (up - a) else up; (up == IntKind.i64.wrap lo / 9223372036854775808)) = decide (I64 p)) := by
 have hpb : -85070591730234615865843651857942052864 ≤ p ∧ p ≤ 85070591730234615865843651857942052864 := by
  unfold I64 at ha hb
  rw [hp]
  have h1 : (a.natAbs : Int) ≤ 9223372036854775808 := by omega
  have h2 : (b.natAbs : Int) ≤ 9223372036854775808 := by omega
  have h3 : ((a * b).natAbs : Int) ≤ 9223372036854775808 * 9223372036854775808 := by
   rw [Int.natAbs_mul, Int.natCast_mul]
   exact Int.mul_le_mul h1 h2 (by omega) (by omega)
  omega
 refine ⟨_, _, rfl, rfl, ?_⟩
 unfold I64 at ha hb
 have hx : ∃ m, a % 18446744073709551616 * (b % 18446744073709551616) = p + 18446744073709551616 * m ∧
   m = (if a < 0 then b else 0) + (if b < 0 then a else 0) + (if a < 0 ∧ b < 0 then 18446744073709551616 else 0) := by
  refine ⟨_, ?_, rfl⟩
  by_cases c1 : a < 0
  ·have e1 : a % 18446744073709551616 = a + 18446744073709551616 := by omega
   by_cases c2 : b < 0
   ·have e2 : b % 18446744073709551616 = b + 18446744073709551616 := by omega
    rw [e1, e2, if_pos c1, if_pos c2, if_pos ⟨c1, c2⟩, Int.add_mul, Int.mul_add, Int.mul_add, ← hp]; omega
   ·have e2 : b % 18446744073709551616 = b := by omega
    rw [e1, e2, if_pos c1, if_neg c2, if_neg (by omega), Int.add_mul, ← hp]; omega
  ·have e1 : a % 18446744073709551616 = a := by omega
   by_cases c2 : b < 0
   ·have e2 : b % 18446744073709551616 = b + 18446744073709551616 := by omega
    rw [e1, e2, if_neg c1, if_pos c2, if_neg (by omega), Int.mul_add, ← hp]; omega
   ·have e2 : b % 18446744073709551616 = b := by omega
    rw [e1, e2, if_neg c1, if_neg c2, if_neg (by omega), ← hp]; omega
 obtain ⟨m, hm, hmm⟩ := hx
 have hpos := mul_range (a % 18446744073709551616) (b % 18446744073709551616) 18446744073709551615 (by omega) (by omega) (by omega) (by omega)
 rw [hm] at hpos ⊢
 clear hm hp
 have hq : (p + 18446744073709551616 * m) / 18446744073709551616 = p / 18446744073709551616 + m := by omega
 have hl : (p + 18446744073709551616 * m) % 18446744073709551616 = p % 18446744073709551616 := by omega
 have hqb : -4611686018427387904 ≤ p / 18446744073709551616 ∧ p / 18446744073709551616 ≤ 4611686018427387904 := by omega
 have hlw : IntKind.i64.wrap (p % 18446744073709551616) = IntKind.i64.wrap p := by rw [wi64, wi64]; omega
 rw [hq, hl, hlw]
 have ws : ∀ x y : Int, IntKind.i64.wrap (IntKind.i64.wrap x - y) = IntKind.i64.wrap (x - y) := fun x y => by rw [wi64, wi64, wi64]; omega
 have ws2 : ∀ x y z : Int, IntKind.i64.wrap (IntKind.i64.wrap x - y - z) = IntKind.i64.wrap (x - y - z) := fun x y z => by rw [wi64, wi64, wi64]; omega
 have hw : ∀ x k : Int, x = p / 18446744073709551616 + 18446744073709551616 * k → IntKind.i64.wrap x = p / 18446744073709551616 := fun x k hx => by rw [wi64]; omega
 have hfin : (p / 18446744073709551616 = IntKind.i64.wrap p / 9223372036854775808) ↔ I64 p := by unfold I64; rw [wi64]; omega
 have hhi : U64 (p / 18446744073709551616 + m) := by
  unfold U64
  clear ws hw hfin hlw
  omega
 refine ⟨hhi, by unfold U64; omega, rfl, ?_⟩
 simp only
 rw [Bool.eq_iff_iff, decide_eq_true_eq, beq_iff_eq, ← hfin]
 by_cases c1 : a < 0
 ·by_cases c2 : b < 0
  ·rw [if_pos c1, if_pos c2, if_pos ⟨c1, c2⟩] at hmm
   rw [if_pos c1, if_pos c2, ws, ws2, hw _ 1 (by omega)]
  ·rw [if_pos c1, if_neg c2, if_neg (by omega)] at hmm
   rw [if_pos c1, if_neg c2, ws, hw _ 0 (by omega)]
 ·by_cases c2 : b < 0
  ·rw [if_neg c1, if_pos c2, if_neg (by omega)] at hmm
   rw [if_neg c1, if_pos c2, ws, hw _ 0 (by omega)]
  ·rw [if_neg c1, if_neg c2, if_neg (by omega)] at hmm
   rw [if_neg c1, if_neg c2, hw _ 0 (by omega)]
theorem mul_ok (h : Heap) (a b : Int) (ha : I64 a) (hb : I64 b) (Q : Value → Heap → Prop) : CALL cp 72 [.int .i64 a, .int .i64 b] h Q ↔ Q (.tuple #[.int .i64 (IntKind.i64.wrap (a * b)), .bool (decide (I64 (a * b)))]) h := by
 refine CALL_det ?_ Q
 rw [CALL_enter cp cp72]
 have f1 := fun h => mul64_ok h (a % 18446744073709551616) (b % 18446744073709551616) (by unfold U64; omega) (by unfold U64; omega)
 obtain ⟨hi, lo, e1, e2, u1, u2, e3, e4⟩ := mul_fits a b (a * b) ha hb rfl
 have c64 : ∀ x : Int, (2 : Int) ^ 63 = 9223372036854775808 := fun _ => by decide
 have s1 := fun x : Int => shr_k .i64 x 63 (by decide)
 rw [← e4, ← e3]
 by_cases c1 : a < 0
 ·have a1 := decide_eq_true c1
  by_cases c2 : b < 0
  ·have a2 := decide_eq_true c2
   simp (disch := omega) only [c72, ↓R72, wu64, f1, e1, e2, a1, a2, s1, c64 0, c1, c2, ↓RnP, RnQ, Nat.reduceEqDiff, Nat.reduceAdd, Nat.reduceMul, Nat.reduceSub, Nat.reduceLT, Nat.reduceLeDiff, Nat.reduceBEq, Int.reduceLT, Int.reduceLE, reduceCtorEq, Int.reduceToNat, Int.reduceAdd, Int.reduceSub, Int.reduceMul]
   first | done | trivial
  ·have a2 := decide_eq_false c2
   simp (disch := omega) only [c72, ↓R72, wu64, f1, e1, e2, a1, a2, s1, c64 0, c1, c2, ↓RnP, RnQ, Nat.reduceEqDiff, Nat.reduceAdd, Nat.reduceMul, Nat.reduceSub, Nat.reduceLT, Nat.reduceLeDiff, Nat.reduceBEq, Int.reduceLT, Int.reduceLE, reduceCtorEq, Int.reduceToNat, Int.reduceAdd, Int.reduceSub, Int.reduceMul]
   first | done | trivial
 ·have a1 := decide_eq_false c1
  by_cases c2 : b < 0
  ·have a2 := decide_eq_true c2
   simp (disch := omega) only [c72, ↓R72, wu64, f1, e1, e2, a1, a2, s1, c64 0, c1, c2, ↓RnP, RnQ, Nat.reduceEqDiff, Nat.reduceAdd, Nat.reduceMul, Nat.reduceSub, Nat.reduceLT, Nat.reduceLeDiff, Nat.reduceBEq, Int.reduceLT, Int.reduceLE, reduceCtorEq, Int.reduceToNat, Int.reduceAdd, Int.reduceSub, Int.reduceMul]
   first | done | trivial
  ·have a2 := decide_eq_false c2
   simp (disch := omega) only [c72, ↓R72, wu64, f1, e1, e2, a1, a2, s1, c64 0, c1, c2, ↓RnP, RnQ, Nat.reduceEqDiff, Nat.reduceAdd, Nat.reduceMul, Nat.reduceSub, Nat.reduceLT, Nat.reduceLeDiff, Nat.reduceBEq, Int.reduceLT, Int.reduceLE, reduceCtorEq, Int.reduceToNat, Int.reduceAdd, Int.reduceSub, Int.reduceMul]
   first | done | trivial
end Go.Proofs.YtlakhgibjfmjjaaGreat.Can
namespace Go.Proofs.YtlakhgibjfmjjaaGreat.Can
open Go
attribute [local congr] RunR_congr RunC_congr afterR_congr guardR_congr condQ_congr CALL_congr finQ_congr op_congr opg_congr
def bs (l : List Int) : ByteArray := ⟨(l.map fun n => UInt8.ofNat n.toNat).toArray⟩
theorem bs_size (l : List Int) : (bs l).size = l.length := by
 show (l.map fun n => UInt8.ofNat n.toNat).toArray.size = _
 simp
theorem bs_app (a b : List Int) : bs a ++ bs b = bs (a ++ b) := by
 apply ByteArray.ext
 rw [ByteArray.data_append]
 simp [bs]
theorem bs_nil : bs [] = ⟨#[]⟩ := rfl
def Byts (l : List Int) : Prop := ∀ x ∈ l, 0 ≤ x ∧ x < 256
theorem Byts.app {a b : List Int} (h : Byts a) (k : Byts b) : Byts (a ++ b) := fun x hx => (List.mem_append.1 hx).elim (h x) (k x)
abbrev B8 : Enc Int := Enc.int .u8
theorem bytesOf_all : ∀ l : List Int, bytesOf (B8.all l) = some (l.map fun n => UInt8.ofNat n.toNat)
 | [] => rfl
 | x :: t => by
  show bytesOf (Value.int .u8 x :: B8.all t) = _
  unfold bytesOf
  rw [bytesOf_all t]; rfl
theorem bytesOf_ints : ∀ l : List Int, bytesOf (ints .u8 l) = some (l.map fun n => UInt8.ofNat n.toNat)
 | [] => rfl
 | x :: t => by
  show bytesOf (Value.int .u8 x :: ints .u8 t) = _
  unfold bytesOf
  rw [bytesOf_ints t]; rfl
theorem byteVals_bs (l : List Int) (h : Byts l) : byteVals (bs l).data.toList = B8.all l := by
 induction l with
 | nil => rfl
 | cons x t ih =>
  have e := ih fun y hy => h y (List.mem_cons_of_mem _ hy)
  have hx := h x List.mem_cons_self
  have h2 : (UInt8.ofNat x.toNat).toNat = x.toNat := by simp; omega
  have h3 : ((UInt8.ofNat x.toNat).toNat : Int) = x := by rw [h2]; omega
  show Value.int .u8 ((UInt8.ofNat x.toNat).toNat : Int) :: byteVals (bs t).data.toList = Value.int .u8 x :: B8.all t
  rw [h3, e]
theorem src_bs (h : Heap) (l : List Int) (hb : Byts l) : srcCells h 1 (.string (bs l)) = some (B8.all l, l.length) := by
 show (if (1 : Nat) = 1 then some (byteVals (bs l).data.toList, (bs l).size) else none) = _
 rw [if_pos rfl, byteVals_bs l hb, bs_size]
theorem bs_of (s : ByteArray) : ∃ l, Byts l ∧ s = bs l := by
 refine ⟨s.data.toList.map fun b => (b.toNat : Int), fun x hx => ?_, ?_⟩
 ·obtain ⟨b, _, rfl⟩ := List.mem_map.1 hx
  have := b.toNat_lt
  omega
 ·apply ByteArray.ext
  have e : ((fun n : Int => UInt8.ofNat n.toNat) ∘ fun b : UInt8 => (b.toNat : Int)) = id := by
   funext b
   simp
  simp [bs, e]
theorem bs_inj {a b : List Int} (ha : Byts a) (hb : Byts b) (h : bs a = bs b) : a = b := by
 have e : byteVals (bs a).data.toList = byteVals (bs b).data.toList := by rw [h]
 rw [byteVals_bs a ha, byteVals_bs b hb] at e
 have k : ∀ (a b : List Int), B8.all a = B8.all b → a = b := by
  intro a
  induction a with
  | nil => intro b hb; cases b with
   | nil => rfl
   | cons y t => exact absurd hb (by simp [Enc.all, Enc.int])
  | cons x s ih => intro b hb; cases b with
   | nil => exact absurd hb (by simp [Enc.all, Enc.int])
   | cons y t =>
    have hb : Value.int .u8 x :: B8.all s = Value.int .u8 y :: B8.all t := hb
    obtain ⟨h1, h2⟩ := List.cons.inj hb
    simp only [Value.int.injEq, true_and] at h1
    rw [h1, ih t h2]
 exact k a b e
theorem bs_idx (l : List Int) (hb : Byts l) (i : Nat) (x : Int) (hx : l[i]? = some x) (h : Heap) (k : IntKind) : cop (.indexStr (.string (bs l)) (.int k (i : Int))) h = some (.int .u8 x, h) := by
 show (if (0 : Int) ≤ (i : Int) then ((bs l).data[((i : Nat) : Int).toNat]?).map (fun b => (Value.int .u8 b.toNat, h)) else none) = _
 have h1 := hb x (List.mem_of_getElem? hx)
 have h2 : (bs l).data[i]? = some (UInt8.ofNat x.toNat) := by simp [bs, hx]
 rw [if_pos (by omega), Int.toNat_natCast, h2, Option.map_some]
 have h3 : ((UInt8.ofNat x.toNat).toNat : Int) = x := by simp; omega
 rw [h3]
def encN : Nat → Int → List Int
 | 0, _ => []
 | n + 1, x => encN n (x / 256) ++ [x % 256]
def decN (l : List Int) : Int := l.foldl (fun a c => a * 256 + c) 0
theorem decN_snoc (l : List Int) (c : Int) : decN (l ++ [c]) = decN l * 256 + c := by unfold decN; rw [List.foldl_append]; rfl
theorem encN_len : ∀ n x, (encN n x).length = n
 | 0, _ => rfl
 | n + 1, x => by simp only [encN, List.length_append, List.length_singleton, encN_len n]
theorem encN_byts : ∀ n x, Byts (encN n x)
 | 0, _ => fun y hy => by simp [encN] at hy
 | n + 1, x => fun y hy => by
  simp only [encN, List.mem_append, List.mem_singleton] at hy
  rcases hy with hy | rfl
  ·exact encN_byts n _ y hy
  ·omega
theorem decN_range : ∀ (n : Nat) (l : List Int), l.length = n → Byts l → 0 ≤ decN l ∧ decN l < 256 ^ n := by
 intro n
 induction n with
 | zero => intro l hl _; rw [List.length_eq_zero_iff.1 hl]; decide
 | succ n ih =>
  intro l hl hb
  obtain ⟨m, c, rfl⟩ : ∃ m c, l = m ++ [c] := ⟨l.dropLast, l.getLast (by intro h; rw [h] at hl; simp at hl), (List.dropLast_concat_getLast _).symm⟩
  have h1 := ih m (by simpa using hl) fun y hy => hb y (List.mem_append_left _ hy)
  have h2 := hb c (by simp)
  rw [decN_snoc, Int.pow_succ]
  omega
theorem dec_enc : ∀ (n : Nat) (x : Int), 0 ≤ x → x < 256 ^ n → decN (encN n x) = x
 | 0, x, h0, h1 => by simp at h1; have : x = 0 := by omega
                      subst this; rfl
 | n + 1, x, h0, h1 => by
  rw [Int.pow_succ] at h1
  simp only [encN]
  rw [decN_snoc, dec_enc n (x / 256) (by omega) (by omega)]
  omega
theorem enc_dec : ∀ (n : Nat) (l : List Int), l.length = n → Byts l → encN n (decN l) = l := by
 intro n
 induction n with
 | zero => intro l hl _; rw [List.length_eq_zero_iff.1 hl]; rfl
 | succ n ih =>
  intro l hl hb
  obtain ⟨m, c, rfl⟩ : ∃ m c, l = m ++ [c] := ⟨l.dropLast, l.getLast (by intro h; rw [h] at hl; simp at hl), (List.dropLast_concat_getLast _).symm⟩
  have h1 := ih m (by simpa using hl) fun y hy => hb y (List.mem_append_left _ hy)
  have h2 := hb c (by simp)
  rw [decN_snoc]
  simp only [encN]
  rw [show (decN m * 256 + c) / 256 = decN m by omega, show (decN m * 256 + c) % 256 = c by omega, h1]
theorem encN_get : ∀ (n : Nat) (x : Int) (i : Nat), i < n → (encN n x)[i]? = some (x / 256 ^ (n - 1 - i) % 256)
 | 0, _, _, h => by omega
 | n + 1, x, i, h => by
  simp only [encN]
  by_cases e : i < n
  ·rw [List.getElem?_append_left (by rw [encN_len]; exact e), encN_get n (x / 256) i e]
   rw [show n + 1 - 1 - i = (n - 1 - i) + 1 by omega, Int.pow_succ, Int.mul_comm, ← Int.ediv_ediv_of_nonneg (by decide)]
  ·have : i = n := by omega
   subst this
   rw [List.getElem?_append_right (by rw [encN_len]; exact Nat.le_refl _), encN_len, Nat.sub_self]
   simp
def encI (x : Int) : List Int := encN 8 (x % 18446744073709551616)
def decI (l : List Int) : Int := IntKind.i64.wrap (decN l)
theorem encI_len (x : Int) : (encI x).length = 8 := encN_len 8 _
theorem encI_byts (x : Int) : Byts (encI x) := encN_byts 8 _
theorem decI_encI {x : Int} (h : I64 x) : decI (encI x) = x := by
 unfold decI encI
 unfold I64 at h
 have : (256 : Int) ^ 8 = 18446744073709551616 := by decide
 rw [dec_enc 8 _ (by omega) (by rw [this]; omega), wi64]; omega
theorem encI_decI {l : List Int} (hl : l.length = 8) (hb : Byts l) : encI (decI l) = l ∧ I64 (decI l) := by
 have h := decN_range 8 l hl hb
 have p : (256 : Int) ^ 8 = 18446744073709551616 := by decide
 rw [p] at h
 unfold decI encI
 rw [wi64]
 refine ⟨?_, by unfold I64; omega⟩
 rw [show ((decN l + 9223372036854775808) % 18446744073709551616 - 9223372036854775808) % 18446744073709551616 = decN l by omega]
 exact enc_dec 8 l hl hb
theorem read_sub {ob : Obj} {o n a k : Nat} {l : List Value} (h : ob.read o n = some l) (hk : a + k ≤ n) : ob.read (o + a) k = some ((l.drop a).take k) := by
 cases ob with
 | cells c t g =>
  simp only [Obj.read] at h ⊢
  split at h
  ·rename_i hle
   obtain rfl := Option.some.inj h
   rw [if_pos (by omega)]
   congr 1
   apply List.ext_getElem?
   intro i
   rw [List.getElem?_take, List.getElem?_take, List.getElem?_drop, List.getElem?_drop, List.getElem?_take, List.getElem?_drop]
   by_cases hi : i < k
   ·rw [if_pos hi, if_pos hi, if_pos (by omega), Nat.add_assoc]
   ·rw [if_neg hi, if_neg hi]
  ·simp at h
 | _ => simp [Obj.read] at h
theorem B8_drop : ∀ (l : List Int) (a k : Nat), ((B8.all l).drop a).take k = B8.all ((l.drop a).take k) := fun l a k => by
 have e : ∀ l : List Int, B8.all l = l.map fun x => Value.int .u8 x := fun l => by
  induction l with
  | nil => rfl
  | cons x t ih => show Value.int .u8 x :: B8.all t = _; rw [ih]; rfl
 rw [e, e, ← List.map_drop, ← List.map_take]
theorem B8_len (l : List Int) : (B8.all l).length = l.length := by
 have := B8.all_len l
 rw [show B8.sz = 1 from rfl, Nat.mul_one] at this
 exact this
theorem B8_get (l : List Int) {i : Nat} {x : Int} (hx : l[i]? = some x) : (B8.all l)[i]? = some (.int .u8 x) := by
 have e : ∀ l : List Int, B8.all l = l.map fun x => Value.int .u8 x := fun l => by
  induction l with
  | nil => rfl
  | cons x t ih => show Value.int .u8 x :: B8.all t = _; rw [ih]; rfl
 rw [e, List.getElem?_map, hx]; rfl
def Bys (h : Heap) (v : Value) (l : List Int) : Prop :=
 (v = .slice none 0 0 ∧ l = []) ∨ ∃ b o cap, v = .slice (some ⟨b, o, none⟩) l.length cap ∧ l.length ≤ cap ∧ b < h.next ∧ (h.obj b).elemOk 5 = true ∧ (h.obj b).read o l.length = some (B8.all l)
theorem Bys.old {h h' : Heap} {v : Value} {l : List Int} (s : Bys h v l) (o : Old h h') : Bys h' v l := by
 rcases s with s | ⟨b, off, cap, h1, h2, h3, h4, h5⟩
 ·exact .inl s
 ·exact .inr ⟨b, off, cap, h1, h2, Nat.lt_of_lt_of_le h3 o.next, by rw [o.obj b h3]; exact h4, by rw [o.obj b h3]; exact h5⟩
theorem Bys.val {h : Heap} {v : Value} {l : List Int} (s : Bys h v l) : ∃ a cap, v = .slice a l.length cap ∧ l.length ≤ cap := by
 rcases s with ⟨rfl, rfl⟩ | ⟨b, off, cap, h1, h2, _⟩
 ·exact ⟨none, 0, rfl, Nat.le_refl _⟩
 ·exact ⟨_, cap, h1, h2⟩
theorem Bys.at {h : Heap} {v : Value} {l : List Int} (s : Bys h v l) (hl : 0 < l.length) : ∃ b o cap, v = .slice (some ⟨b, o, none⟩) l.length cap ∧ l.length ≤ cap ∧ b < h.next ∧ (h.obj b).elemOk 5 = true ∧ (h.obj b).read o l.length = some (B8.all l) := by
 rcases s with ⟨rfl, rfl⟩ | s
 ·simp at hl
 ·exact s
theorem Bys.get {h : Heap} {l : List Int} {b o cap : Nat} (s : (h.obj b).read o l.length = some (B8.all l)) {i : Nat} {x : Int} (hx : l[i]? = some x) : (h.obj b).get (o + i) = some (.int .u8 x) :=
 read_get s (List.getElem?_eq_some_iff.1 hx).1 (B8_get l hx)
theorem Bys.sub {h : Heap} {l : List Int} {b o cap : Nat} (hb : b < h.next) (he : (h.obj b).elemOk 5 = true) (s : (h.obj b).read o l.length = some (B8.all l)) (hc : l.length ≤ cap) (i j : Nat) (hij : i ≤ j) (hj : j ≤ l.length) : Bys h (.slice (some ⟨b, o + i, none⟩) (j - i) (cap - i)) ((l.drop i).take (j - i)) := by
 have hlen : ((l.drop i).take (j - i)).length = j - i := by rw [List.length_take, List.length_drop]; omega
 refine .inr ⟨b, o + i, cap - i, by rw [hlen], by rw [hlen]; omega, hb, he, ?_⟩
 rw [hlen, read_sub s (by omega), B8_drop]
theorem SlIn.bys {h : Heap} {v : Value} {l : List Int} (s : SlIn h B8 v l) : Bys h v l := by
 rcases s with ⟨rfl, rfl⟩ | ⟨b, o, cap, rfl, h2, h3, c, t, hob, hend, hat⟩
 ·exact .inl ⟨rfl, rfl⟩
 ·have hs := SlIn.src (E := B8) (.inr ⟨b, o, cap, rfl, h2, h3, c, t, hob, hend, hat⟩)
  have hb1 : B8.sz = 1 := rfl
  refine .inr ⟨b, o, cap, rfl, h2, h3, by rw [hob]; rfl, ?_⟩
  unfold srcCells at hs
  simp only [if_true, hob, hb1, Nat.mul_one, src_ro] at hs
  rw [hob, read_cells]
  rw [hb1, Nat.mul_one] at hend
  rw [if_pos (by omega)]
  split at hs
  ·simp only [Option.map_some, Option.some.injEq, Prod.mk.injEq] at hs
   rw [hs.1]; rfl
  ·simp at hs
theorem or_u64' (i : Nat) (x y : Int) (hx0 : 0 ≤ x) (hx : x % 2 ^ i = 0) (hx1 : x < 18446744073709551616) (hy0 : 0 ≤ y) (hy : y < 2 ^ i) (hy1 : y < 18446744073709551616) :
  IntKind.u64.wrap ((BitVec.ofInt IntKind.u64.bits x ||| BitVec.ofInt IntKind.u64.bits y).toNat : Int) = x + y :=
 bits_join .u64 64 (by decide) (u64_low 64 (by decide)) i x y hx0 hx (by omega) hy0 hy (by omega)
theorem num_ok (h : Heap) (v : Value) (l : List Int) (s : Bys h v l) (hl : l.length ≤ 8) (byt : Byts l) {Q : Value → Heap → Prop} (hQ : Q (.int .u64 (decN l)) h) : CALL cp 46 [v] h Q := by
 obtain ⟨a, cap, rfl, hcap⟩ := s.val
 rw [CALL_enter cp cp46]
 simp (disch := omega) only [c46, ↓R46, ↓RnP, RnQ, Nat.reduceEqDiff, Nat.reduceAdd, Nat.reduceMul, Nat.reduceSub, Nat.reduceLT, Nat.reduceLeDiff, Nat.reduceBEq, Int.reduceLT, Int.reduceLE, reduceCtorEq, Int.reduceToNat, Int.reduceAdd, Int.reduceSub, Int.reduceMul]
 refine RunC_loop cp c46_l0 _ (fun d e hh => ∃ i : Nat, i + d = l.length ∧ hh = h ∧ e 3 = .int .u64 (decN (l.take i)) ∧ e 6 = .slice a l.length cap ∧ e 7 = .int .i64 l.length ∧ e 8 = .int .i64 i) ?_ l.length _ _
  ⟨0, by omega, rfl, rfl, rfl, rfl, rfl⟩
 rintro d e hh ⟨i, hi, rfl, e3, e6, e7, e8⟩
 by_cases ci : i < l.length
 ·have b1 : decide ((i : Int) < (l.length : Int)) = true := decide_eq_true (by omega)
  have nx : (i : Int) + 1 = ((i + 1 : Nat) : Int) := by omega
  have hx : l[i]? = some l[i] := List.getElem?_eq_getElem ci
  obtain ⟨c, hc⟩ : ∃ c, c = l[i] := ⟨_, rfl⟩
  rw [← hc] at hx
  have cr := byt c (List.mem_of_getElem? hx)
  obtain ⟨b, o, cap', hv, _, _, _, hr⟩ := s.at (by omega)
  simp only [Value.slice.injEq] at hv
  obtain ⟨rfl, _, _⟩ := hv
  have hg := Bys.get (cap := cap) hr hx
  have s8' := fun x : Int => shl_k .u64 x 8 (by decide)
  have p8 : (2 : Int) ^ 8 = 256 := by decide
  have bt : Byts (l.take i) := fun y hy => byt y (List.mem_of_mem_take hy)
  have il : (l.take i).length = i := by rw [List.length_take]; omega
  have rg := decN_range i _ il bt
  have pw : (256 : Int) ^ i ≤ 72057594037927936 := by
   have : i = 0 ∨ i = 1 ∨ i = 2 ∨ i = 3 ∨ i = 4 ∨ i = 5 ∨ i = 6 ∨ i = 7 := by omega
   rcases this with rfl | rfl | rfl | rfl | rfl | rfl | rfl | rfl <;> decide
  obtain ⟨x, hxd⟩ : ∃ x, x = decN (l.take i) := ⟨_, rfl⟩
  rw [← hxd] at rg e3
  have nxd : decN (l.take (i + 1)) = x * 256 + c := by rw [take_get hx, decN_snoc, hxd]
  have eor : IntKind.u64.wrap ((BitVec.ofInt IntKind.u64.bits (x * 256) ||| BitVec.ofInt IntKind.u64.bits c).toNat : Int) = decN (l.take (i + 1)) := by
   rw [nxd]
   exact or_u64' 8 _ _ (by omega) (by rw [p8]; omega) (by omega) (by omega) (by rw [p8]; omega) (by omega)
  simp (disch := omega) only [c46_l0, c46, ↓R46, e3, e6, e7, e8, b1, hg, s8', p8, eor, nx, Nat.mul_one, ↓RnP, RnQ, Nat.reduceEqDiff, Nat.reduceAdd, Nat.reduceMul, Nat.reduceSub, Nat.reduceLT, Nat.reduceLeDiff, Nat.reduceBEq, Int.reduceLT, Int.reduceLE, reduceCtorEq, Int.reduceToNat, Int.reduceAdd, Int.reduceSub, Int.reduceMul]
  refine ⟨d - 1, by omega, i + 1, by omega, rfl, ?_⟩
  repeat' first | assumption | rfl | apply And.intro
 ·have b1 : decide ((i : Int) < (l.length : Int)) = false := decide_eq_false (by omega)
  obtain rfl : i = l.length := by omega
  rw [List.take_length] at e3
  simp (disch := omega) only [c46_l0, c46, ↓R46, e3, e6, e7, e8, b1, ↓RnP, RnQ, Nat.reduceEqDiff, Nat.reduceAdd, Nat.reduceMul, Nat.reduceSub, Nat.reduceLT, Nat.reduceLeDiff, Nat.reduceBEq, Int.reduceLT, Int.reduceLE, reduceCtorEq, Int.reduceToNat, Int.reduceAdd, Int.reduceSub, Int.reduceMul]
  exact hQ
theorem Vec.old {α : Type} {h h' : Heap} {t : TypeId} {E : Enc α} {v : Value} {l : List α} {b : Nat} (V : Vec h t E v l b) (o : Old h h') : Vec h' t E v l b := V.keep o.next fun hb => o.obj b hb
theorem Vec.src {α : Type} {h : Heap} {t : TypeId} {E : Enc α} {v : Value} {l : List α} {b : Nat} (V : Vec h t E v l b) (hl : 0 < l.length) : srcCells h E.sz v = some (E.all l, l.length) := by
 obtain ⟨cap, rest, rfl, hb, ho, h4, h5⟩ := V.at hl
 have hm : l.length * E.sz ≤ (E.all l ++ rest).length := by rw [List.length_append, E.all_len]; omega
 unfold srcCells
 simp only [if_true, ho, src_grow, Nat.zero_add, hm, List.drop_zero]
 rw [List.take_append_of_le_length (by rw [E.all_len]; exact Nat.le_refl _), List.take_of_length_le (by rw [E.all_len]; exact Nat.le_refl _)]
 rfl
theorem Vec.src0 {α : Type} {h : Heap} {t : TypeId} {E : Enc α} {v : Value} {l : List α} {b : Nat} (V : Vec h t E v l b) : srcCells h E.sz v = some (E.all l, l.length) := by
 by_cases c : 0 < l.length
 ·exact V.src c
 ·obtain rfl : l = [] := List.length_eq_zero_iff.1 (by omega)
  rcases V with ⟨rfl, _⟩ | ⟨cap, rest, rfl, h2, h3, h4, h5⟩
  ·rfl
  ·unfold srcCells
   simp only [List.length_nil, Nat.zero_mul, if_true, h3, src_grow, Nat.zero_add, Nat.zero_le, List.drop_zero, List.take_zero]
   rfl
theorem Vec.blk {α : Type} {h : Heap} {t : TypeId} {E : Enc α} {v : Value} {l : List α} {b z o n cap : Nat} (V : Vec h t E v l b) (hv : v = .slice (some ⟨z, o, none⟩) n cap) : z = b := by
 rcases V with ⟨rfl, _⟩ | ⟨cap, rest, rfl, _⟩
 ·simp at hv
 ·simp at hv; omega
theorem Vec.bys {h : Heap} {v : Value} {l : List Int} {b : Nat} (V : Vec h 5 B8 v l b) : Bys h v l := by
 rcases V with ⟨rfl, rfl⟩ | ⟨cap, rest, rfl, h2, h3, h4, h5⟩
 ·exact .inl ⟨rfl, rfl⟩
 ·have e := B8_len l
  refine .inr ⟨b, 0, cap, rfl, h5, h2, by rw [h3]; rfl, ?_⟩
  rw [h3, read_cells, if_pos (by rw [List.length_append, e]; omega), List.drop_zero, List.take_append_of_le_length (by rw [e]; exact Nat.le_refl _), List.take_of_length_le (by rw [e]; exact Nat.le_refl _)]
theorem Vec.new8 {h : Heap} {v : Value} {l : List Int} {b : Nat} (V : Vec h 5 B8 v l b) (ob : Obj) : Vec (h.new ob) 5 B8 v l b := by
 rcases V.ne h.next (Nat.le_refl _) with hv | hne
 ·subst hv
  rcases V with ⟨_, hl⟩ | ⟨_, _, hv, _⟩
  ·rw [hl]; exact Vec.nil _ _ _ _
  ·simp at hv
 ·exact V.keep (Nat.le_succ _) fun hb => obj_new_ne _ _ (Ne.symm hne)
theorem toStr_bys {h : Heap} {v : Value} {l : List Int} (s : Bys h v l) : cop (.toStr v) h = some (.string (bs l), h) := by
 rcases s with ⟨rfl, rfl⟩ | ⟨b, o, cap, rfl, _, _, _, h5⟩
 ·rfl
 ·simp only [cop, if_true, h5, Option.bind_some, bytesOf_all]
  rfl
theorem slice_bys2 {h : Heap} {v : Value} {l : List Int} (s : Bys h v l) (hl : 0 < l.length) (i j : Nat) (hij : i ≤ j) (hj : j ≤ l.length) : ∃ w, cop (.slice 5 1 v (some (.int .i64 i)) (some (.int .i64 j))) h = some (w, h) ∧ Bys h w ((l.drop i).take (j - i)) := by
 obtain ⟨b, o, cap, rfl, h2, h3, h4, h5⟩ := s.at hl
 have S := Bys.sub h3 h4 h5 h2 i j hij hj
 refine ⟨_, ?_, S⟩
 simp (disch := omega) only [h4, ↓RnP, RnQ, Nat.reduceEqDiff, Nat.reduceAdd, Nat.reduceMul, Nat.reduceSub, Nat.reduceLT, Nat.reduceLeDiff, Nat.reduceBEq, Int.reduceLT, Int.reduceLE, reduceCtorEq, Int.reduceToNat, Int.reduceAdd, Int.reduceSub, Int.reduceMul]
theorem slice_bys {h : Heap} {v : Value} {l : List Int} (s : Bys h v l) {i : Nat} (hi : i ≤ l.length) : ∃ w, cop (.slice 5 1 v (some (.int .i64 i)) none) h = some (w, h) ∧ Bys h w (l.drop i) := by
 rcases s with ⟨rfl, rfl⟩ | ⟨b, o, cap, rfl, h2, h3, h4, h5⟩
 ·obtain rfl : i = 0 := by simpa using hi
  exact ⟨.slice none 0 0, rfl, .inl ⟨rfl, rfl⟩⟩
 ·have S := Bys.sub h3 h4 h5 h2 i l.length hi (Nat.le_refl _)
  rw [List.take_of_length_le (by rw [List.length_drop]; exact Nat.le_refl _)] at S
  refine ⟨_, ?_, S⟩
  simp (disch := omega) only [h4, ↓RnP, RnQ, Nat.reduceEqDiff, Nat.reduceAdd, Nat.reduceMul, Nat.reduceSub, Nat.reduceLT, Nat.reduceLeDiff, Nat.reduceBEq, Int.reduceLT, Int.reduceLE, reduceCtorEq, Int.reduceToNat, Int.reduceAdd, Int.reduceSub, Int.reduceMul]
end Go.Proofs.YtlakhgibjfmjjaaGreat.Can
namespace Go.Proofs.YtlakhgibjfmjjaaGreat.Can.Keys
open Go
attribute [local congr] RunR_congr RunC_congr afterR_congr guardR_congr condQ_congr CALL_congr finQ_congr op_congr opg_congr
structure KS where
 p : Nat
 bb : Nat
 bs : Nat
 bn : Nat
 n : Nat
 by_ : List UInt8
 sz : List Int
 nx : List Int
 fr : Int
 us : Int
structure KS.At (s : KS) (h : Heap) : Prop where
 hp : h.obj s.p = .cells [.slice (some ⟨s.bb, 0, none⟩) (s.n * 64) (s.n * 64), .slice (some ⟨s.bs, 0, none⟩) s.n s.n, .slice (some ⟨s.bn, 0, none⟩) s.n s.n, .int .i32 s.fr, .int .i64 s.us] 191 .fix
 hb : h.obj s.bb = .cells (byteVals s.by_) 5 .grow
 hs : h.obj s.bs = .cells (ints .i8 s.sz) 206 .grow
 hn : h.obj s.bn = .cells (ints .i32 s.nx) 21 .grow
 lb : s.by_.length = s.n * 64
 ls : s.sz.length = s.n
 ln : s.nx.length = s.n
 d1 : s.p ≠ s.bb
 d2 : s.p ≠ s.bs
 d3 : s.p ≠ s.bn
 d4 : s.bb ≠ s.bs
 d5 : s.bb ≠ s.bn
 d6 : s.bs ≠ s.bn
 nn : s.n ≤ 65536
theorem byteVals_len (l : List UInt8) : (byteVals l).length = l.length := by simp [byteVals]
theorem bytes_len (k : ByteArray) : k.data.toList.length = k.size := by simp
def setB : List UInt8 → Nat → List UInt8 → List UInt8
 | c, _, [] => c
 | c, o, v :: vs => setB (c.set o v) (o + 1) vs
theorem setB_len : ∀ (c : List UInt8) (o : Nat) (l : List UInt8), (setB c o l).length = c.length
 | _, _, [] => rfl
 | c, o, v :: vs => by simp only [setB]; rw [setB_len]; simp
theorem setAt_bytes : ∀ (c : List UInt8) (o : Nat) (l : List UInt8), setAt (byteVals c) o (byteVals l) = byteVals (setB c o l)
 | _, _, [] => rfl
 | c, o, v :: vs => by
  have : byteVals (v :: vs) = .int .u8 v.toNat :: byteVals vs := rfl
  rw [this]
  simp only [setAt, setB]
  rw [← setAt_bytes (c.set o v) (o + 1) vs]
  simp [byteVals, List.map_set]
structure Kept (h h' : Heap) (A : List Nat) : Prop where
 next : h'.next = h.next
 obj : ∀ b, b ∉ A → h'.obj b = h.obj b
def KS.own (s : KS) : List Nat := [s.p, s.bb, s.bs, s.bn]
def KS.put (s : KS) (i : Nat) (v : Int) (key : ByteArray) : KS :=
 { s with by_ := setB s.by_ (i * 64) key.data.toList, sz := s.sz.set i key.size, fr := v, us := s.us + 1 }
theorem put_ok {h : Heap} {s : KS} (hs : s.At h) (key : ByteArray) (i : Nat) (v : Int) {Q : Value → Heap → Prop}
  (hf : s.fr = i) (hfn : i < s.n) (hk : key.size ≤ 64) (hv : s.nx[i]? = some v) (hu : 0 ≤ s.us) (hun : s.us < s.n)
  (hQ : ∀ h', (s.put i v key).At h' → Kept h h' s.own → Q (.int .i64 i) h') :
  CALL cp 168 [.pointer (some ⟨s.p, 0, none⟩), .string key] h Q := by
 rw [CALL_enter cp cp168]
 obtain ⟨p, bb, bs, bn, n, by_, sz, nx, fr, us⟩ := s
 obtain ⟨hp, hb, hs, hn, lb, ls, ln, d1, d2, d3, d4, d5, d6, nn⟩ := hs
 simp only at *
 subst hf
 have a1 : decide ((i : Int) < 0) = false := by simp
 have a2 : decide ((key.size : Int) > 64) = false := by simp; omega
 have g1 := ints_get .i32 nx hv
 have w1 : IntKind.i64.wrap (i * 64) = ((i * 64 : Nat) : Int) := by rw [wrap_i64] <;> omega
 have w2 : min key.size (n * 64 - i * 64) = key.size := by omega
 have lb' : (byteVals by_).length = n * 64 := by simp [byteVals, lb]
 have e1 : key.extract 0 key.size = key := by simp
 simp (disch := omega) only [c168, ↓R168, hp, hb, hs, hn, a1, a2, g1, w1, w2, srcCells, e1, lb', byteVals_len, bytes_len, setAt_bytes, ints_set, ↓RnP, RnQ, Nat.reduceEqDiff, Nat.reduceAdd, Nat.reduceMul, Nat.reduceSub, Nat.reduceLT, Nat.reduceLeDiff, Nat.reduceBEq, Int.reduceLT, Int.reduceLE, reduceCtorEq, Int.reduceToNat, Int.reduceAdd, Int.reduceSub, Int.reduceMul]
 have d1' := d1.symm; have d2' := d2.symm; have d3' := d3.symm; have d4' := d4.symm; have d5' := d5.symm; have d6' := d6.symm
 refine hQ _ ⟨?_, ?_, ?_, ?_, ?_, ?_, ?_, d1, d2, d3, d4, d5, d6, nn⟩ ⟨rfl, fun b hb => ?_⟩
 ·simp [Heap.upd, KS.put]
 ·simp [Heap.upd, KS.put, d1', d4]
 ·simp [Heap.upd, KS.put, d2']
 ·simp [Heap.upd, KS.put, d3', d5', d6', hn]
 ·simp [KS.put, setB_len, lb]
 ·simp [KS.put, ls]
 ·simp [KS.put, ln]
 ·simp only [KS.own, List.mem_cons, List.not_mem_nil, or_false, not_or] at hb
  simp [Heap.upd, hb]
theorem len_ok {h : Heap} {s : KS} (hs : s.At h) (Q : Value → Heap → Prop) : CALL cp 100 [.pointer (some ⟨s.p, 0, none⟩)] h Q ↔ Q (.int .i64 s.n) h := by
 refine CALL_det ?_ Q
 rw [CALL_enter cp cp100]
 have hp := hs.hp
 simp (disch := omega) only [c100, ↓R100, hp, ↓RnP, RnQ, Nat.reduceEqDiff, Nat.reduceAdd, Nat.reduceMul, Nat.reduceSub, Nat.reduceLT, Nat.reduceLeDiff, Nat.reduceBEq, Int.reduceLT, Int.reduceLE, reduceCtorEq, Int.reduceToNat, Int.reduceAdd, Int.reduceSub, Int.reduceMul]
theorem len_nil (h : Heap) (Q : Value → Heap → Prop) : CALL cp 100 [.pointer none] h Q ↔ Q (.int .i64 0) h := by
 refine CALL_det ?_ Q
 rw [CALL_enter cp cp100]
 simp (disch := omega) only [c100, ↓R100, ↓RnP, RnQ, Nat.reduceEqDiff, Nat.reduceAdd, Nat.reduceMul, Nat.reduceSub, Nat.reduceLT, Nat.reduceLeDiff, Nat.reduceBEq, Int.reduceLT, Int.reduceLE, reduceCtorEq, Int.reduceToNat, Int.reduceAdd, Int.reduceSub, Int.reduceMul]
theorem used_ok {h : Heap} {s : KS} (hs : s.At h) (Q : Value → Heap → Prop) : CALL cp 70 [.pointer (some ⟨s.p, 0, none⟩)] h Q ↔ Q (.int .i64 s.us) h := by
 refine CALL_det ?_ Q
 rw [CALL_enter cp cp70]
 have hp := hs.hp
 simp (disch := omega) only [c70, ↓R70, hp, ↓RnP, RnQ, Nat.reduceEqDiff, Nat.reduceAdd, Nat.reduceMul, Nat.reduceSub, Nat.reduceLT, Nat.reduceLeDiff, Nat.reduceBEq, Int.reduceLT, Int.reduceLE, reduceCtorEq, Int.reduceToNat, Int.reduceAdd, Int.reduceSub, Int.reduceMul]
theorem used_nil (h : Heap) (Q : Value → Heap → Prop) : CALL cp 70 [.pointer none] h Q ↔ Q (.int .i64 0) h := by
 refine CALL_det ?_ Q
 rw [CALL_enter cp cp70]
 simp (disch := omega) only [c70, ↓R70, ↓RnP, RnQ, Nat.reduceEqDiff, Nat.reduceAdd, Nat.reduceMul, Nat.reduceSub, Nat.reduceLT, Nat.reduceLeDiff, Nat.reduceBEq, Int.reduceLT, Int.reduceLE, reduceCtorEq, Int.reduceToNat, Int.reduceAdd, Int.reduceSub, Int.reduceMul]
theorem bytes_ok (h : Heap) (n : Int) (Q : Value → Heap → Prop) : CALL cp 96 [.int .i64 n] h Q ↔ Q (.int .i64 (IntKind.i64.wrap (n * 69))) h := by
 refine CALL_det ?_ Q
 rw [CALL_enter cp cp96]
 simp (disch := omega) only [c96, ↓R96, ↓RnP, RnQ, Nat.reduceEqDiff, Nat.reduceAdd, Nat.reduceMul, Nat.reduceSub, Nat.reduceLT, Nat.reduceLeDiff, Nat.reduceBEq, Int.reduceLT, Int.reduceLE, reduceCtorEq, Int.reduceToNat, Int.reduceAdd, Int.reduceSub, Int.reduceMul]
theorem has_nil (h : Heap) (i : Int) (Q : Value → Heap → Prop) : CALL cp 177 [.pointer none, .int .i64 i] h Q ↔ Q (.bool false) h := by
 refine CALL_det ?_ Q
 rw [CALL_enter cp cp177]
 by_cases h1 : 0 ≤ i
 ·have a1 : decide (i ≥ 0) = true := by simp [h1]
  have a2 : decide (i < 0) = false := by simp [h1]
  simp (disch := omega) only [c177, ↓R177, a1, a2, len_nil, ↓RnP, RnQ, Nat.reduceEqDiff, Nat.reduceAdd, Nat.reduceMul, Nat.reduceSub, Nat.reduceLT, Nat.reduceLeDiff, Nat.reduceBEq, Int.reduceLT, Int.reduceLE, reduceCtorEq, Int.reduceToNat, Int.reduceAdd, Int.reduceSub, Int.reduceMul]
 ·have a1 : decide (i ≥ 0) = false := by simp; omega
  simp (disch := omega) only [c177, ↓R177, a1, len_nil, ↓RnP, RnQ, Nat.reduceEqDiff, Nat.reduceAdd, Nat.reduceMul, Nat.reduceSub, Nat.reduceLT, Nat.reduceLeDiff, Nat.reduceBEq, Int.reduceLT, Int.reduceLE, reduceCtorEq, Int.reduceToNat, Int.reduceAdd, Int.reduceSub, Int.reduceMul]
def KS.has (s : KS) (i : Int) : Bool := decide (0 ≤ i) && decide (i < s.n) && decide (0 ≤ s.sz.getD i.toNat (-1))
theorem has_ok {h : Heap} {s : KS} (hs : s.At h) (i : Int) (Q : Value → Heap → Prop) : CALL cp 177 [.pointer (some ⟨s.p, 0, none⟩), .int .i64 i] h Q ↔ Q (.bool (s.has i)) h := by
 refine CALL_det ?_ Q
 rw [CALL_enter cp cp177]
 have hp := hs.hp
 have hl := len_ok hs
 by_cases h1 : 0 ≤ i
 ·have a1 : decide (i ≥ 0) = true := by simp [h1]
  by_cases h2 : i < s.n
  ·obtain ⟨k, rfl⟩ := Int.eq_ofNat_of_zero_le h1
   have hk : k < s.sz.length := by have := hs.ls; omega
   have a2 : decide ((k : Int) < s.n) = true := by simp; omega
   have g1 := ints_get .i8 s.sz (List.getElem?_eq_getElem hk)
   have hz := hs.hs
   have e1 : s.has k = decide (s.sz[k] ≥ 0) := by
    unfold KS.has
    simp only [h1, h2, decide_true, Bool.true_and, Int.toNat_natCast, List.getD_eq_getElem?_getD, List.getElem?_eq_getElem hk, Option.getD_some, ge_iff_le]
   simp (disch := omega) only [c177, ↓R177, a1, a2, hl, hp, hz, g1, ↓RnP, RnQ, Nat.reduceEqDiff, Nat.reduceAdd, Nat.reduceMul, Nat.reduceSub, Nat.reduceLT, Nat.reduceLeDiff, Nat.reduceBEq, Int.reduceLT, Int.reduceLE, reduceCtorEq, Int.reduceToNat, Int.reduceAdd, Int.reduceSub, Int.reduceMul]
   rw [e1]
  ·have a2 : decide (i < s.n) = false := by simp; omega
   have e1 : s.has i = false := by unfold KS.has; simp [h2]
   simp (disch := omega) only [c177, ↓R177, a1, a2, hl, e1, ↓RnP, RnQ, Nat.reduceEqDiff, Nat.reduceAdd, Nat.reduceMul, Nat.reduceSub, Nat.reduceLT, Nat.reduceLeDiff, Nat.reduceBEq, Int.reduceLT, Int.reduceLE, reduceCtorEq, Int.reduceToNat, Int.reduceAdd, Int.reduceSub, Int.reduceMul]
 ·have a1 : decide (i ≥ 0) = false := by simp; omega
  have e1 : s.has i = false := by unfold KS.has; simp [h1]
  simp (disch := omega) only [c177, ↓R177, a1, e1, ↓RnP, RnQ, Nat.reduceEqDiff, Nat.reduceAdd, Nat.reduceMul, Nat.reduceSub, Nat.reduceLT, Nat.reduceLeDiff, Nat.reduceBEq, Int.reduceLT, Int.reduceLE, reduceCtorEq, Int.reduceToNat, Int.reduceAdd, Int.reduceSub, Int.reduceMul]
theorem has_inv {s : KS} {i : Int} (h : s.has i = true) : ∃ k z : Nat, i = k ∧ k < s.n ∧ s.sz[k]? = some (z : Int) := by
 unfold KS.has at h
 simp only [Bool.and_eq_true, decide_eq_true_eq] at h
 obtain ⟨⟨h1, h2⟩, h3⟩ := h
 obtain ⟨k, rfl⟩ := Int.eq_ofNat_of_zero_le h1
 refine ⟨k, (s.sz.getD k (-1)).toNat, rfl, by omega, ?_⟩
 simp only [Int.toNat_natCast, List.getD_eq_getElem?_getD] at h3 ⊢
 cases hq : s.sz[k]? with
 | none => rw [hq] at h3; simp at h3
 | some x => rw [hq] at h3; simp only [Option.getD_some] at h3 ⊢; congr 1; omega
theorem byteVals_drop (l : List UInt8) (n : Nat) : (byteVals l).drop n = byteVals (l.drop n) := by simp [byteVals]
theorem byteVals_take (l : List UInt8) (n : Nat) : (byteVals l).take n = byteVals (l.take n) := by simp [byteVals]
theorem bytesOf_vals : ∀ (l : List UInt8), bytesOf (byteVals l) = some l
 | [] => rfl
 | b :: l => by
  have : byteVals (b :: l) = .int .u8 b.toNat :: byteVals l := rfl
  rw [this]
  simp only [bytesOf, bytesOf_vals l, Option.map_some]
  simp
def KS.key (s : KS) (k z : Nat) : ByteArray := ⟨((s.by_.drop (k * 64)).take z).toArray⟩
theorem key_no {h : Heap} {s : KS} (hs : s.At h) {i : Int} (hi : s.has i = false) (Q : Value → Heap → Prop) : CALL cp 166 [.pointer (some ⟨s.p, 0, none⟩), .int .i64 i] h Q ↔ Q (.tuple #[.string ⟨#[]⟩, .bool false]) h := by
 refine CALL_det ?_ Q
 rw [CALL_enter cp cp166]
 have hh := has_ok hs i
 simp (disch := omega) only [c166, ↓R166, hh, hi, ↓RnP, RnQ, Nat.reduceEqDiff, Nat.reduceAdd, Nat.reduceMul, Nat.reduceSub, Nat.reduceLT, Nat.reduceLeDiff, Nat.reduceBEq, Int.reduceLT, Int.reduceLE, reduceCtorEq, Int.reduceToNat, Int.reduceAdd, Int.reduceSub, Int.reduceMul]
theorem key_nil (h : Heap) (i : Int) (Q : Value → Heap → Prop) : CALL cp 166 [.pointer none, .int .i64 i] h Q ↔ Q (.tuple #[.string ⟨#[]⟩, .bool false]) h := by
 refine CALL_det ?_ Q
 rw [CALL_enter cp cp166]
 simp (disch := omega) only [c166, ↓R166, has_nil, ↓RnP, RnQ, Nat.reduceEqDiff, Nat.reduceAdd, Nat.reduceMul, Nat.reduceSub, Nat.reduceLT, Nat.reduceLeDiff, Nat.reduceBEq, Int.reduceLT, Int.reduceLE, reduceCtorEq, Int.reduceToNat, Int.reduceAdd, Int.reduceSub, Int.reduceMul]
theorem key_ok {h : Heap} {s : KS} (hs : s.At h) {k z : Nat} (hk : k < s.n) (hz : s.sz[k]? = some (z : Int)) (hz64 : z ≤ 64) (Q : Value → Heap → Prop) :
  CALL cp 166 [.pointer (some ⟨s.p, 0, none⟩), .int .i64 k] h Q ↔ Q (.tuple #[.string (s.key k z), .bool true]) h := by
 refine CALL_det ?_ Q
 rw [CALL_enter cp cp166]
 have hh := has_ok hs k
 have hi : s.has k = true := by unfold KS.has; simp [hk, List.getD_eq_getElem?_getD, hz]
 have hp := hs.hp
 have hzz := hs.hs
 have hb := hs.hb
 have lb := hs.lb
 have nn := hs.nn
 have g1 := ints_get .i8 s.sz hz
 have w1 : IntKind.i64.wrap (k * 64) = ((k * 64 : Nat) : Int) := by rw [wrap_i64] <;> omega
 have w2 : IntKind.i64.wrap (((k * 64 : Nat) : Int) + z) = ((k * 64 + z : Nat) : Int) := by rw [wrap_i64] <;> omega
 have e1 : k * 64 + z - k * 64 = z := by omega
 simp (disch := omega) only [c166, ↓R166, hh, hi, hp, hzz, hb, g1, w1, w2, e1, byteVals_len, byteVals_drop, byteVals_take, bytesOf_vals, ↓RnP, RnQ, Nat.reduceEqDiff, Nat.reduceAdd, Nat.reduceMul, Nat.reduceSub, Nat.reduceLT, Nat.reduceLeDiff, Nat.reduceBEq, Int.reduceLT, Int.reduceLE, reduceCtorEq, Int.reduceToNat, Int.reduceAdd, Int.reduceSub, Int.reduceMul]
 first | trivial | exact ⟨rfl, trivial⟩
theorem is_no {h : Heap} {s : KS} (hs : s.At h) {i : Int} (hi : s.has i = false) (key : ByteArray) (Q : Value → Heap → Prop) : CALL cp 176 [.pointer (some ⟨s.p, 0, none⟩), .int .i64 i, .string key] h Q ↔ Q (.bool false) h := by
 refine CALL_det ?_ Q
 rw [CALL_enter cp cp176]
 have hh := has_ok hs i
 simp (disch := omega) only [c176, ↓R176, hh, hi, ↓RnP, RnQ, Nat.reduceEqDiff, Nat.reduceAdd, Nat.reduceMul, Nat.reduceSub, Nat.reduceLT, Nat.reduceLeDiff, Nat.reduceBEq, Int.reduceLT, Int.reduceLE, reduceCtorEq, Int.reduceToNat, Int.reduceAdd, Int.reduceSub, Int.reduceMul]
theorem is_nil (h : Heap) (i : Int) (key : ByteArray) (Q : Value → Heap → Prop) : CALL cp 176 [.pointer none, .int .i64 i, .string key] h Q ↔ Q (.bool false) h := by
 refine CALL_det ?_ Q
 rw [CALL_enter cp cp176]
 simp (disch := omega) only [c176, ↓R176, has_nil, ↓RnP, RnQ, Nat.reduceEqDiff, Nat.reduceAdd, Nat.reduceMul, Nat.reduceSub, Nat.reduceLT, Nat.reduceLeDiff, Nat.reduceBEq, Int.reduceLT, Int.reduceLE, reduceCtorEq, Int.reduceToNat, Int.reduceAdd, Int.reduceSub, Int.reduceMul]
theorem is_ok {h : Heap} {s : KS} (hs : s.At h) {k z : Nat} (hk : k < s.n) (hz : s.sz[k]? = some (z : Int)) (hz64 : z ≤ 64) (key : ByteArray) (Q : Value → Heap → Prop) :
  CALL cp 176 [.pointer (some ⟨s.p, 0, none⟩), .int .i64 k, .string key] h Q ↔ Q (.bool ((s.key k z).toList == key.toList)) h := by
 refine CALL_det ?_ Q
 rw [CALL_enter cp cp176]
 have hh := has_ok hs k
 have hi : s.has k = true := by unfold KS.has; simp [hk, List.getD_eq_getElem?_getD, hz]
 have hp := hs.hp
 have hzz := hs.hs
 have hb := hs.hb
 have lb := hs.lb
 have nn := hs.nn
 have g1 := ints_get .i8 s.sz hz
 have w1 : IntKind.i64.wrap (k * 64) = ((k * 64 : Nat) : Int) := by rw [wrap_i64] <;> omega
 have w2 : IntKind.i64.wrap (((k * 64 : Nat) : Int) + z) = ((k * 64 + z : Nat) : Int) := by rw [wrap_i64] <;> omega
 have e1 : k * 64 + z - k * 64 = z := by omega
 simp (disch := omega) only [c176, ↓R176, hh, hi, hp, hzz, hb, g1, w1, w2, e1, byteVals_len, byteVals_drop, byteVals_take, bytesOf_vals, binStr, ↓RnP, RnQ, Nat.reduceEqDiff, Nat.reduceAdd, Nat.reduceMul, Nat.reduceSub, Nat.reduceLT, Nat.reduceLeDiff, Nat.reduceBEq, Int.reduceLT, Int.reduceLE, reduceCtorEq, Int.reduceToNat, Int.reduceAdd, Int.reduceSub, Int.reduceMul]
 first | trivial | exact ⟨rfl, trivial⟩
theorem put_nil (h : Heap) (key : ByteArray) (Q : Value → Heap → Prop) : CALL cp 168 [.pointer none, .string key] h Q ↔ Q (.int .i64 (-1)) h := by
 refine CALL_det ?_ Q
 rw [CALL_enter cp cp168]
 simp (disch := omega) only [c168, ↓R168, ↓RnP, RnQ, Nat.reduceEqDiff, Nat.reduceAdd, Nat.reduceMul, Nat.reduceSub, Nat.reduceLT, Nat.reduceLeDiff, Nat.reduceBEq, Int.reduceLT, Int.reduceLE, reduceCtorEq, Int.reduceToNat, Int.reduceAdd, Int.reduceSub, Int.reduceMul]
theorem put_no {h : Heap} {s : KS} (hs : s.At h) (key : ByteArray) (hno : s.fr < 0 ∨ 64 < key.size) (Q : Value → Heap → Prop) : CALL cp 168 [.pointer (some ⟨s.p, 0, none⟩), .string key] h Q ↔ Q (.int .i64 (-1)) h := by
 refine CALL_det ?_ Q
 rw [CALL_enter cp cp168]
 have hp := hs.hp
 by_cases h1 : s.fr < 0
 ·have a1 : decide (s.fr < 0) = true := by simp [h1]
  simp (disch := omega) only [c168, ↓R168, hp, a1, ↓RnP, RnQ, Nat.reduceEqDiff, Nat.reduceAdd, Nat.reduceMul, Nat.reduceSub, Nat.reduceLT, Nat.reduceLeDiff, Nat.reduceBEq, Int.reduceLT, Int.reduceLE, reduceCtorEq, Int.reduceToNat, Int.reduceAdd, Int.reduceSub, Int.reduceMul]
 ·have a1 : decide (s.fr < 0) = false := by simp [h1]
  have a2 : decide ((key.size : Int) > 64) = true := by simp; omega
  simp (disch := omega) only [c168, ↓R168, hp, a1, a2, ↓RnP, RnQ, Nat.reduceEqDiff, Nat.reduceAdd, Nat.reduceMul, Nat.reduceSub, Nat.reduceLT, Nat.reduceLeDiff, Nat.reduceBEq, Int.reduceLT, Int.reduceLE, reduceCtorEq, Int.reduceToNat, Int.reduceAdd, Int.reduceSub, Int.reduceMul]
def KS.free (s : KS) (k : Nat) : KS := { s with sz := s.sz.set k (-1), nx := s.nx.set k s.fr, fr := k, us := s.us - 1 }
theorem free_nil (h : Heap) (i : Int) (Q : Value → Heap → Prop) : CALL cp 178 [.pointer none, .int .i64 i] h Q ↔ Q (.tuple #[]) h := by
 refine CALL_det ?_ Q
 rw [CALL_enter cp cp178]
 simp (disch := omega) only [c178, ↓R178, has_nil, ↓RnP, RnQ, Nat.reduceEqDiff, Nat.reduceAdd, Nat.reduceMul, Nat.reduceSub, Nat.reduceLT, Nat.reduceLeDiff, Nat.reduceBEq, Int.reduceLT, Int.reduceLE, reduceCtorEq, Int.reduceToNat, Int.reduceAdd, Int.reduceSub, Int.reduceMul]
theorem free_no {h : Heap} {s : KS} (hs : s.At h) {i : Int} (hi : s.has i = false) (Q : Value → Heap → Prop) : CALL cp 178 [.pointer (some ⟨s.p, 0, none⟩), .int .i64 i] h Q ↔ Q (.tuple #[]) h := by
 refine CALL_det ?_ Q
 rw [CALL_enter cp cp178]
 have hh := has_ok hs i
 simp (disch := omega) only [c178, ↓R178, hh, hi, ↓RnP, RnQ, Nat.reduceEqDiff, Nat.reduceAdd, Nat.reduceMul, Nat.reduceSub, Nat.reduceLT, Nat.reduceLeDiff, Nat.reduceBEq, Int.reduceLT, Int.reduceLE, reduceCtorEq, Int.reduceToNat, Int.reduceAdd, Int.reduceSub, Int.reduceMul]
theorem free_ok {h : Heap} {s : KS} (hs : s.At h) {k z : Nat} (hk : k < s.n) (hz : s.sz[k]? = some (z : Int)) (hu : 0 < s.us) (hu2 : s.us ≤ s.n) {Q : Value → Heap → Prop}
  (hQ : ∀ h', (s.free k).At h' → Kept h h' s.own → Q (.tuple #[]) h') :
  CALL cp 178 [.pointer (some ⟨s.p, 0, none⟩), .int .i64 k] h Q := by
 rw [CALL_enter cp cp178]
 have hh := has_ok hs k
 have hi : s.has k = true := by unfold KS.has; simp [hk, List.getD_eq_getElem?_getD, hz]
 obtain ⟨p, bb, bs, bn, n, by_, sz, nx, fr, us⟩ := s
 obtain ⟨hp, hb, hs, hn, lb, ls, ln, d1, d2, d3, d4, d5, d6, nn⟩ := hs
 simp only at *
 have w1 : IntKind.i32.wrap k = k := by rw [wrap_i32] <;> omega
 simp (disch := omega) only [c178, ↓R178, hh, hi, hp, hb, hs, hn, w1, ints_set, ↓RnP, RnQ, Nat.reduceEqDiff, Nat.reduceAdd, Nat.reduceMul, Nat.reduceSub, Nat.reduceLT, Nat.reduceLeDiff, Nat.reduceBEq, Int.reduceLT, Int.reduceLE, reduceCtorEq, Int.reduceToNat, Int.reduceAdd, Int.reduceSub, Int.reduceMul]
 have d1' := d1.symm; have d2' := d2.symm; have d3' := d3.symm; have d4' := d4.symm; have d5' := d5.symm; have d6' := d6.symm
 refine hQ _ ⟨?_, ?_, ?_, ?_, ?_, ?_, ?_, d1, d2, d3, d4, d5, d6, nn⟩ ⟨rfl, fun b hb => ?_⟩
 ·simp [Heap.upd, KS.free]
 ·simp [Heap.upd, KS.free, d1', d4, d5, hb]
 ·simp [Heap.upd, KS.free, d2', d6]
 ·simp [Heap.upd, KS.free, d3']
 ·simp [KS.free, lb]
 ·simp [KS.free, ls]
 ·simp [KS.free, ln]
 ·simp only [KS.own, List.mem_cons, List.not_mem_nil, or_false, not_or] at hb
  simp [Heap.upd, hb]
def nxs (n : Nat) : List Int := (List.range n).map fun i => if i + 1 = n then -1 else (i : Int) + 1
def KS.stage (b n d : Nat) : KS := ⟨b + 3, b, b + 1, b + 2, n, List.replicate (n * 64) 0, List.replicate d 0 ++ List.replicate (n - d) (-1), List.replicate d 0 ++ (nxs n).drop d, if d = n then -1 else d, 0⟩
theorem nxs_len (n : Nat) : (nxs n).length = n := by simp [nxs]
theorem nxs_drop {n d : Nat} (h : d < n) : (nxs n).drop d = (if d + 1 = n then -1 else (d : Int) + 1) :: (nxs n).drop (d + 1) := by
 have hd : d < (nxs n).length := by rw [nxs_len]; exact h
 rw [List.drop_eq_getElem_cons hd]
 simp [nxs]
theorem set_rep {α : Type} (d : Nat) (x y : α) (l : List α) : (List.replicate (d + 1) x ++ l).set d y = List.replicate d x ++ y :: l := by
 rw [List.replicate_succ', List.append_assoc, List.set_append_right _ _ (by simp)]
 simp
theorem reps_byte : ∀ (n : Nat), reps n [.int .u8 0] = byteVals (List.replicate n 0)
 | 0 => rfl
 | n + 1 => by simp only [reps, reps_byte n]; rfl
theorem reps_int (k : IntKind) : ∀ (n : Nat), reps n [.int k 0] = ints k (List.replicate n 0)
 | 0 => rfl
 | n + 1 => by simp only [reps, reps_int k n]; rfl
theorem new_none (h : Heap) (n : Int) (hn : n < 0 ∨ 65536 < n) (Q : Value → Heap → Prop) : CALL cp 92 [.int .i64 n] h Q ↔ Q (.pointer none) h := by
 refine CALL_det ?_ Q
 rw [CALL_enter cp cp92]
 by_cases h1 : n < 0
 ·have a1 : decide (n < 0) = true := by simp [h1]
  simp (disch := omega) only [c92, ↓R92, a1, ↓RnP, RnQ, Nat.reduceEqDiff, Nat.reduceAdd, Nat.reduceMul, Nat.reduceSub, Nat.reduceLT, Nat.reduceLeDiff, Nat.reduceBEq, Int.reduceLT, Int.reduceLE, reduceCtorEq, Int.reduceToNat, Int.reduceAdd, Int.reduceSub, Int.reduceMul]
 ·have a1 : decide (n < 0) = false := by simp [h1]
  have a2 : decide (n > 65536) = true := by simp; omega
  simp (disch := omega) only [c92, ↓R92, a1, a2, ↓RnP, RnQ, Nat.reduceEqDiff, Nat.reduceAdd, Nat.reduceMul, Nat.reduceSub, Nat.reduceLT, Nat.reduceLeDiff, Nat.reduceBEq, Int.reduceLT, Int.reduceLE, reduceCtorEq, Int.reduceToNat, Int.reduceAdd, Int.reduceSub, Int.reduceMul]
theorem new_ok (h : Heap) (n : Nat) (hn : n ≤ 65536) {Q : Value → Heap → Prop}
  (hQ : ∀ h', (KS.stage h.next n 0).At h' → h'.next = h.next + 4 → (∀ b, b < h.next → h'.obj b = h.obj b) → Q (.pointer (some ⟨h.next + 3, 0, none⟩)) h') :
  CALL cp 92 [.int .i64 n] h Q := by
 rw [CALL_enter cp cp92]
 have a1 : decide ((n : Int) < 0) = false := by simp
 have a2 : decide ((n : Int) > 65536) = false := by simp; omega
 have w1 : IntKind.i64.wrap (n * 64) = ((n * 64 : Nat) : Int) := by rw [wrap_i64] <;> omega
 simp (disch := omega) only [c92, ↓R92, a1, a2, w1, and_true, true_and, reps_byte, reps_int .i8, reps_int .i32, fillIn, ↓RnP, RnQ, Nat.reduceEqDiff, Nat.reduceAdd, Nat.reduceMul, Nat.reduceSub, Nat.reduceLT, Nat.reduceLeDiff, Nat.reduceBEq, Int.reduceLT, Int.reduceLE, reduceCtorEq, Int.reduceToNat, Int.reduceAdd, Int.reduceSub, Int.reduceMul]
 refine RunC_loop cp c92_l0 _ (fun d e hh => e 3 = .pointer (some ⟨h.next + 3, 0, none⟩) ∧ e 4 = .int .i64 ((d : Int) - 1) ∧ d ≤ n ∧ (KS.stage h.next n d).At hh ∧ hh.next = h.next + 4 ∧ ∀ b, b < h.next → hh.obj b = h.obj b) ?_ n _ _ ?_
 ·rintro d e hh ⟨e3, e4, hd, hAt, hnx, hold⟩
  cases d with
  | zero =>
   have b1 : decide (((0 : Nat) : Int) - 1 ≥ 0) = false := by decide
   simp (disch := omega) only [c92_l0, c92, ↓R92, e3, e4, b1, ↓RnP, RnQ, Nat.reduceEqDiff, Nat.reduceAdd, Nat.reduceMul, Nat.reduceSub, Nat.reduceLT, Nat.reduceLeDiff, Nat.reduceBEq, Int.reduceLT, Int.reduceLE, reduceCtorEq, Int.reduceToNat, Int.reduceAdd, Int.reduceSub, Int.reduceMul]
   exact hQ hh hAt hnx hold
  | succ d =>
   have b1 : decide (((d + 1 : Nat) : Int) - 1 ≥ 0) = true := by simp
   have b2 : ((d + 1 : Nat) : Int) - 1 = (d : Int) := by omega
   have w2 : IntKind.i32.wrap (d : Int) = d := by rw [wrap_i32] <;> omega
   obtain ⟨hp, hb, hs, hn', lb, ls, ln, d1, d2, d3, d4, d5, d6, nn⟩ := hAt
   rw [b2] at e4 b1
   simp only [KS.stage] at hp hb hs hn' lb ls ln d1 d2 d3 d4 d5 d6
   simp (disch := omega) only [c92_l0, c92, ↓R92, e3, e4, b1, hp, hb, hs, hn', ls, ln, w2, ints_set, set_rep, ↓RnP, RnQ, Nat.reduceEqDiff, Nat.reduceAdd, Nat.reduceMul, Nat.reduceSub, Nat.reduceLT, Nat.reduceLeDiff, Nat.reduceBEq, Int.reduceLT, Int.reduceLE, reduceCtorEq, Int.reduceToNat, Int.reduceAdd, Int.reduceSub, Int.reduceMul]
   have hdn : d ≠ n := by omega
   have r1 : -1 :: List.replicate (n - (d + 1)) (-1 : Int) = List.replicate (n - d) (-1) := by
    rw [show n - d = (n - (d + 1)) + 1 by omega, List.replicate_succ]
   have r2 : (if d + 1 = n then (-1 : Int) else ((d + 1 : Nat) : Int)) :: (nxs n).drop (d + 1) = (nxs n).drop d := by
    rw [nxs_drop (n := n) (d := d) (by omega)]; rfl
   rw [r1, r2]
   refine ⟨d, by omega, rfl, by omega, ⟨?_, ?_, ?_, ?_, ?_, ?_, ?_, d1, d2, d3, d4, d5, d6, nn⟩, hnx, fun b hb => ?_⟩
   ·simp [Heap.upd, KS.stage, hdn]
   ·simp [Heap.upd, KS.stage, hb]
   ·simp [Heap.upd, KS.stage]
   ·simp [Heap.upd, KS.stage]
   ·simp [KS.stage]
   ·simp [KS.stage]; omega
   ·simp [KS.stage, nxs_len]; omega
   ·have h1 : b ≠ h.next + 1 := by omega
    have h2 : b ≠ h.next + 2 := by omega
    have h3 : b ≠ h.next + 3 := by omega
    simp [Heap.upd, h1, h2, h3, hold b hb]
 ·refine ⟨rfl, rfl, Nat.le_refl _, ⟨?_, ?_, ?_, ?_, ?_, ?_, ?_, ?_, ?_, ?_, ?_, ?_, ?_, hn⟩, rfl, fun b hb => ?_⟩
  ·simp [Heap.new, KS.stage]
  ·simp only [Heap.new, KS.stage]
   rw [if_neg (by omega), if_neg (by omega), if_neg (by omega), if_pos trivial]
  ·simp [Heap.new, KS.stage]
  ·simp [Heap.new, KS.stage, List.drop_eq_nil_of_le (Nat.le_of_eq (nxs_len n))]
  ·simp [KS.stage]
  ·simp [KS.stage]
  ·simp [KS.stage, nxs_len]
  ·simp [KS.stage]
  ·simp [KS.stage]
  ·simp [KS.stage]
  ·simp [KS.stage]
  ·simp [KS.stage]
  ·simp [KS.stage]
  ·have h0 : b ≠ h.next := by omega
   have h1 : b ≠ h.next + 1 := by omega
   have h2 : b ≠ h.next + 1 + 1 := by omega
   have h3 : b ≠ h.next + 1 + 1 + 1 := by omega
   simp [Heap.new, h0, h1, h2, h3]
end Go.Proofs.YtlakhgibjfmjjaaGreat.Can.Keys
namespace Go.Proofs.YtlakhgibjfmjjaaGreat.Can.Keys
open Go
attribute [local congr] RunR_congr RunC_congr afterR_congr guardR_congr condQ_congr CALL_congr finQ_congr op_congr opg_congr
theorem setB_get : ∀ (l : List UInt8) (c : List UInt8) (o j : Nat), (setB c o l)[j]? = if o ≤ j ∧ j < o + l.length ∧ j < c.length then l[j - o]? else c[j]?
 | [], c, o, j => by
  rw [if_neg (by simp only [List.length_nil]; omega)]; rfl
 | v :: vs, c, o, j => by
  simp only [setB]
  rw [setB_get vs (c.set o v) (o + 1) j]
  simp only [List.length_set, List.length_cons, List.getElem?_set]
  by_cases h1 : o + 1 ≤ j ∧ j < o + 1 + vs.length ∧ j < c.length
  ·rw [if_pos h1, if_pos (by omega), show j - o = (j - (o + 1)) + 1 by omega, List.getElem?_cons_succ]
  ·rw [if_neg h1]
   by_cases h2 : o = j
   ·subst h2
    by_cases h3 : o < c.length
    ·rw [if_pos (show o ≤ o ∧ o < o + (vs.length + 1) ∧ o < c.length by omega), Nat.sub_self]
     simp [h3]
    ·rw [if_neg (show ¬ (o ≤ o ∧ o < o + (vs.length + 1) ∧ o < c.length) by omega)]
     simp [h3]
   ·rw [if_neg (show ¬ (o ≤ j ∧ j < o + (vs.length + 1) ∧ j < c.length) by omega)]
    simp [h2]
def Link (nx : List Int) : List Nat → Prop
 | [] => True
 | [i] => nx[i]? = some (-1)
 | i :: j :: r => nx[i]? = some (j : Int) ∧ Link nx (j :: r)
def first : List Nat → Int
 | [] => -1
 | i :: _ => i
def kset (f : Nat → Option ByteArray) (i : Nat) (v : Option ByteArray) : Nat → Option ByteArray := fun k => if k = i then v else f k
structure KS.Good (s : KS) (keys : Nat → Option ByteArray) (fl : List Nat) : Prop where
 fr : s.fr = first fl
 link : Link s.nx fl
 nodup : fl.Nodup
 lt : ∀ i ∈ fl, i < s.n
 free : ∀ i, i < s.n → (i ∈ fl ↔ keys i = none)
 gone : ∀ i, i < s.n → keys i = none → s.sz[i]? = some (-1)
 held : ∀ i k, i < s.n → keys i = some k → s.sz[i]? = some (k.size : Int) ∧ k.size ≤ 64 ∧ s.key i k.size = k
 us : s.us = (s.n : Int) - fl.length
 le : fl.length ≤ s.n
theorem Link.tail {nx : List Int} {i : Nat} {r : List Nat} (h : Link nx (i :: r)) : nx[i]? = some (first r) ∧ Link nx r := by
 cases r with
 | nil => exact ⟨h, trivial⟩
 | cons j r => exact h
theorem Link.set {nx : List Int} {k : Nat} {v : Int} : ∀ {l : List Nat}, k ∉ l → Link nx l → Link (nx.set k v) l
 | [], _, _ => trivial
 | [i], hk, h => by
  simp only [List.mem_singleton] at hk
  show (nx.set k v)[i]? = _
  rw [List.getElem?_set_ne hk]; exact h
 | i :: j :: r, hk, h => by
  simp only [List.mem_cons, not_or] at hk
  refine ⟨?_, Link.set (by simp only [List.mem_cons, not_or]; exact hk.2) h.2⟩
  rw [List.getElem?_set_ne hk.1]; exact h.1
theorem Link.cons {nx : List Int} {i : Nat} {r : List Nat} (h : nx[i]? = some (first r)) (hr : Link nx r) : Link nx (i :: r) := by
 cases r with
 | nil => exact h
 | cons j r => exact ⟨h, hr⟩
theorem good_put {s : KS} {keys : Nat → Option ByteArray} {i : Nat} {fl : List Nat} (g : s.Good keys (i :: fl)) (lb : s.by_.length = s.n * 64) (ls : s.sz.length = s.n) {key : ByteArray} (hk : key.size ≤ 64) : (s.put i (first fl) key).Good (kset keys i (some key)) fl := by
 have hi := g.lt i List.mem_cons_self
 have hni : i ∉ fl := (List.nodup_cons.1 g.nodup).1
 have hle := g.le
 have hus := g.us
 simp only [List.length_cons] at hle hus
 refine ⟨rfl, g.link.tail.2, (List.nodup_cons.1 g.nodup).2, fun k hk => g.lt k (List.mem_cons_of_mem _ hk), fun k hkn => ?_, fun k hkn hkk => ?_, fun k key' hkn hkk => ?_, ?_, show fl.length ≤ s.n by omega⟩
 ·unfold kset
  by_cases hki : k = i
  ·subst hki; simp [hni]
  ·rw [if_neg hki, ← g.free k hkn]; simp [hki]
 ·unfold kset at hkk
  split at hkk
  ·simp at hkk
  ·rename_i hki
   show (s.sz.set i _)[k]? = _
   rw [List.getElem?_set_ne (fun h => hki h.symm)]; exact g.gone k hkn hkk
 ·unfold kset at hkk
  split at hkk
  ·rename_i hki
   obtain rfl := Option.some.inj hkk
   subst hki
   refine ⟨?_, hk, ?_⟩
   ·show (s.sz.set k _)[k]? = _
    rw [List.getElem?_set_self (by rw [ls]; exact hkn)]
   ·show (⟨(((setB s.by_ (k * 64) key.data.toList).drop (k * 64)).take key.size).toArray⟩ : ByteArray) = key
    have : ((setB s.by_ (k * 64) key.data.toList).drop (k * 64)).take key.size = key.data.toList := by
     apply List.ext_getElem?
     intro j
     rw [List.getElem?_take, List.getElem?_drop, setB_get]
     have hks : key.data.toList.length = key.size := by simp
     by_cases hj : j < key.size
     ·rw [if_pos hj, if_pos (by change k < s.n at hkn; omega), Nat.add_sub_cancel_left]
     ·rw [if_neg hj, List.getElem?_eq_none (by omega)]
    rw [this]
  ·rename_i hki
   obtain ⟨h1, h2, h3⟩ := g.held k key' hkn hkk
   refine ⟨?_, h2, ?_⟩
   ·show (s.sz.set i _)[k]? = _
    rw [List.getElem?_set_ne (fun h => hki h.symm)]; exact h1
   ·have : (s.put i (first fl) key).key k key'.size = s.key k key'.size := by
     unfold KS.key
     congr 2
     apply List.ext_getElem?
     intro j
     have hks : key.data.toList.length = key.size := by simp
     rw [List.getElem?_take, List.getElem?_take, List.getElem?_drop, List.getElem?_drop]
     split
     ·show (setB s.by_ (i * 64) key.data.toList)[k * 64 + j]? = _
      rw [setB_get, if_neg (by rw [hks]; intro hc; rcases Nat.lt_or_gt_of_ne hki with h | h <;> omega)]
     ·rfl
    rw [this]; exact h3
 ·show s.us + 1 = _
  rw [hus]; simp only [KS.put]; omega
theorem nodup_le : ∀ (n : Nat) (l : List Nat), l.Nodup → (∀ x ∈ l, x < n) → l.length ≤ n
 | 0, [], _, _ => Nat.le_refl _
 | 0, x :: l, _, h => by have := h x List.mem_cons_self; omega
 | n + 1, l, hd, h => by
  have h1 := nodup_le n (l.erase n) (hd.erase n) fun x hx => by
   have h2 := (hd.mem_erase_iff).1 hx
   have h3 := h x h2.2
   have h4 := h2.1
   omega
  have h2 := List.length_erase (l := l) (a := n)
  split at h2 <;> omega
theorem good_free {s : KS} {keys : Nat → Option ByteArray} {k : Nat} {fl : List Nat} (g : s.Good keys fl) (ls : s.sz.length = s.n) (ln : s.nx.length = s.n) (hk : k < s.n) {key : ByteArray} (hkey : keys k = some key) : (s.free k).Good (kset keys k none) (k :: fl) := by
 have hni : k ∉ fl := fun h => by rw [(g.free k hk).1 h] at hkey; simp at hkey
 have hle := g.le
 have hus := g.us
 have hlt : fl.length < s.n := by
  rcases Nat.lt_or_ge fl.length s.n with h | h
  ·exact h
  ·exfalso
   have h3 := nodup_le s.n (k :: fl) (List.nodup_cons.2 ⟨hni, g.nodup⟩) fun x hx => by
    rcases List.mem_cons.1 hx with rfl | hx
    ·exact hk
    ·exact g.lt x hx
   simp only [List.length_cons] at h3
   omega
 refine ⟨rfl, ?_, List.nodup_cons.2 ⟨hni, g.nodup⟩, fun i hi => ?_, fun i hin => ?_, fun i hin hii => ?_, fun i key' hin hii => ?_, ?_, ?_⟩
 ·refine Link.cons ?_ (Link.set hni g.link)
  show (s.nx.set k s.fr)[k]? = _
  rw [List.getElem?_set_self (by rw [ln]; exact hk), g.fr]
 ·rcases List.mem_cons.1 hi with rfl | hi
  ·exact hk
  ·exact g.lt i hi
 ·unfold kset
  by_cases hki : i = k
  ·subst hki; simp
  ·rw [if_neg hki, ← g.free i hin]; simp [hki]
 ·unfold kset at hii
  show (s.sz.set k (-1))[i]? = _
  split at hii
  ·rename_i h; subst h; rw [List.getElem?_set_self (by rw [ls]; exact hk)]
  ·rename_i h; rw [List.getElem?_set_ne (fun h' => h h'.symm)]; exact g.gone i hin hii
 ·unfold kset at hii
  split at hii
  ·simp at hii
  ·rename_i h
   obtain ⟨h1, h2, h3⟩ := g.held i key' hin hii
   refine ⟨?_, h2, h3⟩
   show (s.sz.set k (-1))[i]? = _
   rw [List.getElem?_set_ne (fun h' => h h'.symm)]; exact h1
 ·show s.us - 1 = _
  rw [hus]; simp only [KS.free, List.length_cons]; omega
 ·simp only [KS.free, List.length_cons]; omega
theorem link_nxs (n : Nat) : ∀ (m d : Nat), d + m = n → Link (nxs n) (List.range' d m)
 | 0, d, h => trivial
 | m + 1, d, h => by
  rw [List.range'_succ]
  refine Link.cons ?_ (link_nxs n m (d + 1) (by omega))
  have hd : (nxs n)[d]? = some (if d + 1 = n then -1 else (d : Int) + 1) := by simp [nxs, show d < n by omega]
  rw [hd]
  cases m with
  | zero => rw [if_pos (by omega)]; rfl
  | succ m => rw [if_neg (by omega), List.range'_succ]; rfl
theorem good_new (b n : Nat) : (KS.stage b n 0).Good (fun _ => none) (List.range n) := by
 refine ⟨?_, ?_, List.nodup_range, fun i hi => List.mem_range.1 hi, fun i hi => ?_, fun i hi _ => ?_, fun i k hi hk => by simp at hk, ?_, ?_⟩
 ·simp only [KS.stage]
  cases n with
  | zero => rfl
  | succ n => rw [if_neg (by omega), List.range_succ_eq_map]; rfl
 ·have := link_nxs n n 0 (by omega)
  rw [List.range_eq_range']
  simpa [KS.stage] using this
 ·simp [KS.stage] at hi ⊢; exact hi
 ·have hi' : i < n := hi
  simp [KS.stage, hi']
 ·simp [KS.stage]
 ·simp [KS.stage]
def Store (h : Heap) (p : Nat) (A : List Nat) (n : Nat) (keys : Nat → Option ByteArray) (fl : List Nat) : Prop :=
 ∃ s : KS, s.p = p ∧ s.own = A ∧ s.n = n ∧ s.At h ∧ s.Good keys fl
section
variable {h : Heap} {p : Nat} {A : List Nat} {n : Nat} {keys : Nat → Option ByteArray} {fl : List Nat}
theorem st_new (h : Heap) (n : Nat) (hn : n ≤ 65536) {Q : Value → Heap → Prop}
  (hQ : ∀ h', Store h' (h.next + 3) [h.next + 3, h.next, h.next + 1, h.next + 2] n (fun _ => none) (List.range n) → h'.next = h.next + 4 → (∀ b, b < h.next → h'.obj b = h.obj b) → Q (.pointer (some ⟨h.next + 3, 0, none⟩)) h') :
  CALL cp 92 [.int .i64 n] h Q :=
 new_ok h n hn fun h' hs hnx ho => hQ h' ⟨_, rfl, rfl, rfl, hs, good_new h.next n⟩ hnx ho
theorem st_put {i : Nat} (S : Store h p A n keys (i :: fl)) {key : ByteArray} (hk : key.size ≤ 64) {Q : Value → Heap → Prop}
  (hQ : ∀ h', Store h' p A n (kset keys i (some key)) fl → Kept h h' A → Q (.int .i64 i) h') : CALL cp 168 [.pointer (some ⟨p, 0, none⟩), .string key] h Q := by
 obtain ⟨s, rfl, rfl, rfl, hs, g⟩ := S
 have hi := g.lt i List.mem_cons_self
 have hle := g.le
 have hus := g.us
 simp only [List.length_cons] at hle hus
 exact put_ok hs key i (first fl) g.fr hi hk g.link.tail.1 (by omega) (by omega) fun h' hs' k => hQ h' ⟨s.put i (first fl) key, rfl, rfl, rfl, hs', good_put g hs.lb hs.ls hk⟩ k
theorem st_put_no (S : Store h p A n keys fl) {key : ByteArray} (hno : fl = [] ∨ 64 < key.size) (Q : Value → Heap → Prop) : CALL cp 168 [.pointer (some ⟨p, 0, none⟩), .string key] h Q ↔ Q (.int .i64 (-1)) h := by
 obtain ⟨s, rfl, rfl, rfl, hs, g⟩ := S
 refine put_no hs key ?_ Q
 rcases hno with h | h
 ·left; rw [g.fr, h]; simp [first]
 ·exact .inr h
theorem has_keys {s : KS} (g : s.Good keys fl) {k : Nat} (hk : k < s.n) : s.has k = (keys k).isSome := by
 unfold KS.has
 simp only [Int.toNat_natCast, List.getD_eq_getElem?_getD]
 cases hq : keys k with
 | none => rw [g.gone k hk hq]; simp
 | some key => rw [(g.held k key hk hq).1]; simp; omega
def NoKey (n : Nat) (keys : Nat → Option ByteArray) (i : Int) : Prop := ∀ k : Nat, i = k → k < n → keys k = none
theorem has_no {s : KS} (g : s.Good keys fl) {i : Int} (hi : NoKey s.n keys i) : s.has i = false := by
 cases hq : s.has i with
 | false => rfl
 | true =>
  obtain ⟨k, z, rfl, hk, hz⟩ := has_inv hq
  have := hi k rfl hk
  rw [has_keys g hk, this] at hq
  simp at hq
theorem st_free (S : Store h p A n keys fl) {k : Nat} (hk : k < n) {key : ByteArray} (hkey : keys k = some key) {Q : Value → Heap → Prop}
  (hQ : ∀ h', Store h' p A n (kset keys k none) (k :: fl) → Kept h h' A → Q (.tuple #[]) h') : CALL cp 178 [.pointer (some ⟨p, 0, none⟩), .int .i64 k] h Q := by
 obtain ⟨s, rfl, rfl, rfl, hs, g⟩ := S
 have g' := good_free g hs.ls hs.ln hk hkey
 have h1 := g'.le
 have h2 := g.us
 simp only [List.length_cons] at h1
 change fl.length + 1 ≤ s.n at h1
 exact free_ok hs hk (g.held k key hk hkey).1 (by omega) (by omega) fun h' hs' kp => hQ h' ⟨s.free k, rfl, rfl, rfl, hs', g'⟩ kp
theorem st_free_no (S : Store h p A n keys fl) {i : Int} (hi : NoKey n keys i) (Q : Value → Heap → Prop) : CALL cp 178 [.pointer (some ⟨p, 0, none⟩), .int .i64 i] h Q ↔ Q (.tuple #[]) h := by
 obtain ⟨s, rfl, rfl, rfl, hs, g⟩ := S
 exact free_no hs (has_no g hi) Q
theorem st_key (S : Store h p A n keys fl) {k : Nat} (hk : k < n) {key : ByteArray} (hkey : keys k = some key) (Q : Value → Heap → Prop) : CALL cp 166 [.pointer (some ⟨p, 0, none⟩), .int .i64 k] h Q ↔ Q (.tuple #[.string key, .bool true]) h := by
 obtain ⟨s, rfl, rfl, rfl, hs, g⟩ := S
 obtain ⟨h1, h2, h3⟩ := g.held k key hk hkey
 rw [key_ok hs hk h1 h2, h3]
theorem st_key_no (S : Store h p A n keys fl) {i : Int} (hi : NoKey n keys i) (Q : Value → Heap → Prop) : CALL cp 166 [.pointer (some ⟨p, 0, none⟩), .int .i64 i] h Q ↔ Q (.tuple #[.string ⟨#[]⟩, .bool false]) h := by
 obtain ⟨s, rfl, rfl, rfl, hs, g⟩ := S
 exact key_no hs (has_no g hi) Q
theorem st_is (S : Store h p A n keys fl) {k : Nat} (hk : k < n) {key : ByteArray} (hkey : keys k = some key) (x : ByteArray) (Q : Value → Heap → Prop) : CALL cp 176 [.pointer (some ⟨p, 0, none⟩), .int .i64 k, .string x] h Q ↔ Q (.bool (key.toList == x.toList)) h := by
 obtain ⟨s, rfl, rfl, rfl, hs, g⟩ := S
 obtain ⟨h1, h2, h3⟩ := g.held k key hk hkey
 rw [is_ok hs hk h1 h2, h3]
theorem st_is_no (S : Store h p A n keys fl) {i : Int} (hi : NoKey n keys i) (x : ByteArray) (Q : Value → Heap → Prop) : CALL cp 176 [.pointer (some ⟨p, 0, none⟩), .int .i64 i, .string x] h Q ↔ Q (.bool false) h := by
 obtain ⟨s, rfl, rfl, rfl, hs, g⟩ := S
 exact is_no hs (has_no g hi) x Q
theorem st_len (S : Store h p A n keys fl) (Q : Value → Heap → Prop) : CALL cp 100 [.pointer (some ⟨p, 0, none⟩)] h Q ↔ Q (.int .i64 n) h := by
 obtain ⟨s, rfl, rfl, rfl, hs, g⟩ := S
 exact len_ok hs Q
theorem st_used (S : Store h p A n keys fl) (Q : Value → Heap → Prop) : CALL cp 70 [.pointer (some ⟨p, 0, none⟩)] h Q ↔ Q (.int .i64 ((n : Int) - fl.length)) h := by
 obtain ⟨s, rfl, rfl, rfl, hs, g⟩ := S
 rw [used_ok hs, g.us]
end
end Go.Proofs.YtlakhgibjfmjjaaGreat.Can.Keys
namespace Go.Proofs.YtlakhgibjfmjjaaGreat.Digit
theorem test_iff {v1 v0 u d q rhat y : Nat} (hy : y = v1 * 4294967296 + v0) (hr : q * v1 + rhat = u) :
  u * 4294967296 + d < q * y ↔ rhat * 4294967296 + d < q * v0 := by
 subst hy hr
 rw [Nat.mul_add, Nat.add_mul, ← Nat.mul_assoc]
 omega
theorem less {N y q : Nat} (h : N < q * y) : N / y ≤ q - 1 := by
 have h0 : q ≠ 0 := by intro e; subst e; omega
 have h1 : N / y < q := by
  rcases Nat.eq_zero_or_pos y with e | e
  ·subst e; omega
  ·exact (Nat.div_lt_iff_lt_mul e).mpr h
 omega
theorem same {N y q : Nat} (hy : 0 < y) (h : N / y ≤ q) (h2 : q * y ≤ N) : q = N / y := by
 have h3 : q ≤ N / y := (Nat.le_div_iff_mul_le hy).mpr h2
 omega
theorem guess {v1 v0 u d y : Nat} (hy : y = v1 * 4294967296 + v0) (hv1 : 0 < v1) : (u * 4294967296 + d) / y ≤ u / v1 ∨ 4294967296 ≤ d := by
 by_cases hd : d < 4294967296
 ·left
  rw [← Nat.lt_add_one_iff]
  have hy0 : 0 < y := by omega
  rw [Nat.div_lt_iff_lt_mul hy0]
  have h1 : u < (u / v1 + 1) * v1 := by
   have := Nat.div_add_mod u v1
   have := Nat.mod_lt u hv1
   rw [Nat.add_mul, Nat.mul_comm]; omega
  subst hy
  have h2 : (u + 1) * 4294967296 ≤ (u / v1 + 1) * v1 * 4294967296 := Nat.mul_le_mul_right _ h1
  rw [Nat.mul_add, ← Nat.mul_assoc]
  omega
 ·right; omega
theorem guess_max {v1 v0 u y : Nat} (hy : y = v1 * 4294967296 + v0) (hv0 : v0 < 4294967296) (hv1 : 2147483648 ≤ v1) (hu : u < y) : u / v1 ≤ 4294967297 := by
 rw [← Nat.lt_add_one_iff, Nat.div_lt_iff_lt_mul (by omega)]
 omega
theorem two {u d1 d0 y : Nat} (hy : 0 < y) :
  let q1 := (u * 4294967296 + d1) / y; let r1 := (u * 4294967296 + d1) % y
  let q0 := (r1 * 4294967296 + d0) / y; let r0 := (r1 * 4294967296 + d0) % y
  (u * 18446744073709551616 + d1 * 4294967296 + d0) / y = q1 * 4294967296 + q0 ∧ (u * 18446744073709551616 + d1 * 4294967296 + d0) % y = r0 := by
 intro q1 r1 q0 r0
 have e1 : y * q1 + r1 = u * 4294967296 + d1 := Nat.div_add_mod _ _
 have e0 : y * q0 + r0 = r1 * 4294967296 + d0 := Nat.div_add_mod _ _
 have hr : r0 < y := Nat.mod_lt _ hy
 have e : u * 18446744073709551616 + d1 * 4294967296 + d0 = r0 + y * (q1 * 4294967296 + q0) := by
  rw [Nat.mul_add, ← Nat.mul_assoc]
  omega
 rw [e]
 constructor
 ·rw [Nat.add_mul_div_left _ _ hy, Nat.div_eq_of_lt hr, Nat.zero_add]
 ·rw [Nat.add_mul_mod_self_left, Nat.mod_eq_of_lt hr]
theorem shifted (n y : Nat) (s : Nat) : n * 2 ^ s / (y * 2 ^ s) = n / y ∧ n * 2 ^ s % (y * 2 ^ s) / 2 ^ s = n % y := by
 have hp : 0 < 2 ^ s := Nat.two_pow_pos s
 constructor
 ·exact Nat.mul_div_mul_right _ _ hp
 ·rw [Nat.mul_mod_mul_right, Nat.mul_div_cancel _ hp]
end Go.Proofs.YtlakhgibjfmjjaaGreat.Digit
namespace Go.Proofs.YtlakhgibjfmjjaaGreat.Can
open Go
attribute [local congr] RunR_congr RunC_congr afterR_congr guardR_congr condQ_congr CALL_congr finQ_congr op_congr opg_congr
def len8 (x : Nat) : Nat := if x = 0 then 0 else Nat.log2 x + 1
theorem len8_tab : ∀ x : Nat, x < 256 → big0.data[x]? = some (UInt8.ofNat (len8 x)) ∧ len8 x ≤ 8 ∧ x < 2 ^ len8 x ∧ (x ≠ 0 → 2 ^ len8 x ≤ 2 * x) := by decide +kernel
theorem len64_ok (x : Nat) (hx : x < 18446744073709551616) : ∃ n : Nat, n ≤ 64 ∧ x < 2 ^ n ∧ (x ≠ 0 → 2 ^ n ≤ 2 * x) ∧ ∀ (h : Heap) (Q : Value → Heap → Prop), CALL cp 190 [.int .u64 x] h Q ↔ Q (.int .i64 n) h := by
 have step : ∀ (y k n : Nat), y < 2 ^ n → (y ≠ 0 → 2 ^ n ≤ 2 * y) → ∀ z, y = z / 2 ^ k → y ≠ 0 → z < 2 ^ (k + n) ∧ 2 ^ (k + n) ≤ 2 * z := fun y k n h1 h2 z hz hy => by
  have h3 := h2 hy
  subst hz
  have hp := Nat.two_pow_pos k
  rw [Nat.pow_add]
  constructor
  ·have := (Nat.div_lt_iff_lt_mul hp).1 h1
   rw [Nat.mul_comm]; exact this
  ·have h4 := Nat.mul_le_mul_left (2 ^ k) h3
   have h5 : 2 ^ k * (z / 2 ^ k) ≤ z := Nat.mul_div_le _ _
   rw [Nat.mul_left_comm] at h4
   omega
 have last : ∀ (y : Nat), y < 256 → ∃ t, t ≤ 8 ∧ y < 2 ^ t ∧ (y ≠ 0 → 2 ^ t ≤ 2 * y) ∧ ∀ h, cop (.indexStr (.string big0) (.int .u8 y)) h = some (.int .u8 (t : Nat), h) := fun y hy => by
  obtain ⟨h1, h2, h3, h4⟩ := len8_tab y hy
  refine ⟨len8 y, h2, h3, h4, fun h => ?_⟩
  show (if (0 : Int) ≤ (y : Int) then (big0.data[((y : Nat) : Int).toNat]?).map (fun b => (Value.int .u8 b.toNat, h)) else none) = _
  generalize big0.data = d at h1
  rw [if_pos (by omega), Int.toNat_natCast, h1]
  have h5 : (UInt8.ofNat (len8 y)).toNat = len8 y := by simp; omega
  rw [Option.map_some, h5]
 have sh : ∀ (y k : Nat), k ≤ 64 → ((y : Nat) : Int).fdiv (2 ^ (min k IntKind.u64.bits)) = ((y / 2 ^ k : Nat) : Int) := fun y k hk => by
  rw [shr_k .u64 _ k hk, Int.natCast_ediv, Int.natCast_pow]; rfl
 have c8 : ∀ y : Nat, y < 256 → IntKind.u8.wrap (y : Int) = y := fun y hy => by rw [wu8]; omega
 by_cases c0 : 4294967296 ≤ x
 ·have a0 : decide (((x : Nat) : Int) ≥ 4294967296) = true := decide_eq_true (by omega)
  have e0 := sh x 32 (by decide)
  obtain ⟨y0, hy0⟩ : ∃ y, y = x / 2 ^ 32 := ⟨_, rfl⟩
  rw [← hy0] at e0
  by_cases c1 : 65536 ≤ y0
  ·have a1 : decide (((y0 : Nat) : Int) ≥ 65536) = true := decide_eq_true (by omega)
   have e1 := sh y0 16 (by decide)
   obtain ⟨y1, hy1⟩ : ∃ y, y = y0 / 2 ^ 16 := ⟨_, rfl⟩
   rw [← hy1] at e1
   by_cases c2 : 256 ≤ y1
   ·have a2 : decide (((y1 : Nat) : Int) ≥ 256) = true := decide_eq_true (by omega)
    have e2 := sh y1 8 (by decide)
    obtain ⟨y2, hy2⟩ : ∃ y, y = y1 / 2 ^ 8 := ⟨_, rfl⟩
    rw [← hy2] at e2
    obtain ⟨t, t8, u1, u2, f⟩ := last y2 (by omega)
    have k8 := c8 y2 (by omega)
    have b1 := u1
    have b2 := u2
    obtain ⟨b1, b2'⟩ := step y2 8 _ b1 b2 y1 hy2 (by omega)
    have b2 : y1 ≠ 0 → _ := fun _ => b2'
    obtain ⟨b1, b2'⟩ := step y1 16 _ b1 b2 y0 hy1 (by omega)
    have b2 : y0 ≠ 0 → _ := fun _ => b2'
    obtain ⟨b1, b2'⟩ := step y0 32 _ b1 b2 x hy0 (by omega)
    have b2 : x ≠ 0 → _ := fun _ => b2'
    refine ⟨32 + (16 + (8 + t)), by omega, b1, b2, fun h Q => CALL_det ?_ Q⟩
    rw [CALL_enter cp cp190]
    simp (disch := omega) only [c190, ↓R190, ↓f, a0, e0, a1, e1, a2, e2, k8, ↓RnP, RnQ, Nat.reduceEqDiff, Nat.reduceAdd, Nat.reduceMul, Nat.reduceSub, Nat.reduceLT, Nat.reduceLeDiff, Nat.reduceBEq, Int.reduceLT, Int.reduceLE, reduceCtorEq, Int.reduceToNat, Int.reduceAdd, Int.reduceSub, Int.reduceMul]
    all_goals first | (congr 1; done) | (congr 1; omega)
   ·have a2 : decide (((y1 : Nat) : Int) ≥ 256) = false := decide_eq_false (by omega)
    obtain ⟨t, t8, u1, u2, f⟩ := last y1 (by omega)
    have k8 := c8 y1 (by omega)
    have b1 := u1
    have b2 := u2
    obtain ⟨b1, b2'⟩ := step y1 16 _ b1 b2 y0 hy1 (by omega)
    have b2 : y0 ≠ 0 → _ := fun _ => b2'
    obtain ⟨b1, b2'⟩ := step y0 32 _ b1 b2 x hy0 (by omega)
    have b2 : x ≠ 0 → _ := fun _ => b2'
    refine ⟨32 + (16 + t), by omega, b1, b2, fun h Q => CALL_det ?_ Q⟩
    rw [CALL_enter cp cp190]
    simp (disch := omega) only [c190, ↓R190, ↓f, a0, e0, a1, e1, a2, k8, ↓RnP, RnQ, Nat.reduceEqDiff, Nat.reduceAdd, Nat.reduceMul, Nat.reduceSub, Nat.reduceLT, Nat.reduceLeDiff, Nat.reduceBEq, Int.reduceLT, Int.reduceLE, reduceCtorEq, Int.reduceToNat, Int.reduceAdd, Int.reduceSub, Int.reduceMul]
    all_goals first | (congr 1; done) | (congr 1; omega)
  ·have a1 : decide (((y0 : Nat) : Int) ≥ 65536) = false := decide_eq_false (by omega)
   by_cases c2 : 256 ≤ y0
   ·have a2 : decide (((y0 : Nat) : Int) ≥ 256) = true := decide_eq_true (by omega)
    have e2 := sh y0 8 (by decide)
    obtain ⟨y2, hy2⟩ : ∃ y, y = y0 / 2 ^ 8 := ⟨_, rfl⟩
    rw [← hy2] at e2
    obtain ⟨t, t8, u1, u2, f⟩ := last y2 (by omega)
    have k8 := c8 y2 (by omega)
    have b1 := u1
    have b2 := u2
    obtain ⟨b1, b2'⟩ := step y2 8 _ b1 b2 y0 hy2 (by omega)
    have b2 : y0 ≠ 0 → _ := fun _ => b2'
    obtain ⟨b1, b2'⟩ := step y0 32 _ b1 b2 x hy0 (by omega)
    have b2 : x ≠ 0 → _ := fun _ => b2'
    refine ⟨32 + (8 + t), by omega, b1, b2, fun h Q => CALL_det ?_ Q⟩
    rw [CALL_enter cp cp190]
    simp (disch := omega) only [c190, ↓R190, ↓f, a0, e0, a1, a2, e2, k8, ↓RnP, RnQ, Nat.reduceEqDiff, Nat.reduceAdd, Nat.reduceMul, Nat.reduceSub, Nat.reduceLT, Nat.reduceLeDiff, Nat.reduceBEq, Int.reduceLT, Int.reduceLE, reduceCtorEq, Int.reduceToNat, Int.reduceAdd, Int.reduceSub, Int.reduceMul]
    all_goals first | (congr 1; done) | (congr 1; omega)
   ·have a2 : decide (((y0 : Nat) : Int) ≥ 256) = false := decide_eq_false (by omega)
    obtain ⟨t, t8, u1, u2, f⟩ := last y0 (by omega)
    have k8 := c8 y0 (by omega)
    have b1 := u1
    have b2 := u2
    obtain ⟨b1, b2'⟩ := step y0 32 _ b1 b2 x hy0 (by omega)
    have b2 : x ≠ 0 → _ := fun _ => b2'
    refine ⟨32 + t, by omega, b1, b2, fun h Q => CALL_det ?_ Q⟩
    rw [CALL_enter cp cp190]
    simp (disch := omega) only [c190, ↓R190, ↓f, a0, e0, a1, a2, k8, ↓RnP, RnQ, Nat.reduceEqDiff, Nat.reduceAdd, Nat.reduceMul, Nat.reduceSub, Nat.reduceLT, Nat.reduceLeDiff, Nat.reduceBEq, Int.reduceLT, Int.reduceLE, reduceCtorEq, Int.reduceToNat, Int.reduceAdd, Int.reduceSub, Int.reduceMul]
    all_goals first | (congr 1; done) | (congr 1; omega)
 ·have a0 : decide (((x : Nat) : Int) ≥ 4294967296) = false := decide_eq_false (by omega)
  by_cases c1 : 65536 ≤ x
  ·have a1 : decide (((x : Nat) : Int) ≥ 65536) = true := decide_eq_true (by omega)
   have e1 := sh x 16 (by decide)
   obtain ⟨y1, hy1⟩ : ∃ y, y = x / 2 ^ 16 := ⟨_, rfl⟩
   rw [← hy1] at e1
   by_cases c2 : 256 ≤ y1
   ·have a2 : decide (((y1 : Nat) : Int) ≥ 256) = true := decide_eq_true (by omega)
    have e2 := sh y1 8 (by decide)
    obtain ⟨y2, hy2⟩ : ∃ y, y = y1 / 2 ^ 8 := ⟨_, rfl⟩
    rw [← hy2] at e2
    obtain ⟨t, t8, u1, u2, f⟩ := last y2 (by omega)
    have k8 := c8 y2 (by omega)
    have b1 := u1
    have b2 := u2
    obtain ⟨b1, b2'⟩ := step y2 8 _ b1 b2 y1 hy2 (by omega)
    have b2 : y1 ≠ 0 → _ := fun _ => b2'
    obtain ⟨b1, b2'⟩ := step y1 16 _ b1 b2 x hy1 (by omega)
    have b2 : x ≠ 0 → _ := fun _ => b2'
    refine ⟨16 + (8 + t), by omega, b1, b2, fun h Q => CALL_det ?_ Q⟩
    rw [CALL_enter cp cp190]
    simp (disch := omega) only [c190, ↓R190, ↓f, a0, a1, e1, a2, e2, k8, ↓RnP, RnQ, Nat.reduceEqDiff, Nat.reduceAdd, Nat.reduceMul, Nat.reduceSub, Nat.reduceLT, Nat.reduceLeDiff, Nat.reduceBEq, Int.reduceLT, Int.reduceLE, reduceCtorEq, Int.reduceToNat, Int.reduceAdd, Int.reduceSub, Int.reduceMul]
    all_goals first | (congr 1; done) | (congr 1; omega)
   ·have a2 : decide (((y1 : Nat) : Int) ≥ 256) = false := decide_eq_false (by omega)
    obtain ⟨t, t8, u1, u2, f⟩ := last y1 (by omega)
    have k8 := c8 y1 (by omega)
    have b1 := u1
    have b2 := u2
    obtain ⟨b1, b2'⟩ := step y1 16 _ b1 b2 x hy1 (by omega)
    have b2 : x ≠ 0 → _ := fun _ => b2'
    refine ⟨16 + t, by omega, b1, b2, fun h Q => CALL_det ?_ Q⟩
    rw [CALL_enter cp cp190]
    simp (disch := omega) only [c190, ↓R190, ↓f, a0, a1, e1, a2, k8, ↓RnP, RnQ, Nat.reduceEqDiff, Nat.reduceAdd, Nat.reduceMul, Nat.reduceSub, Nat.reduceLT, Nat.reduceLeDiff, Nat.reduceBEq, Int.reduceLT, Int.reduceLE, reduceCtorEq, Int.reduceToNat, Int.reduceAdd, Int.reduceSub, Int.reduceMul]
    all_goals first | (congr 1; done) | (congr 1; omega)
  ·have a1 : decide (((x : Nat) : Int) ≥ 65536) = false := decide_eq_false (by omega)
   by_cases c2 : 256 ≤ x
   ·have a2 : decide (((x : Nat) : Int) ≥ 256) = true := decide_eq_true (by omega)
    have e2 := sh x 8 (by decide)
    obtain ⟨y2, hy2⟩ : ∃ y, y = x / 2 ^ 8 := ⟨_, rfl⟩
    rw [← hy2] at e2
    obtain ⟨t, t8, u1, u2, f⟩ := last y2 (by omega)
    have k8 := c8 y2 (by omega)
    have b1 := u1
    have b2 := u2
    obtain ⟨b1, b2'⟩ := step y2 8 _ b1 b2 x hy2 (by omega)
    have b2 : x ≠ 0 → _ := fun _ => b2'
    refine ⟨8 + t, by omega, b1, b2, fun h Q => CALL_det ?_ Q⟩
    rw [CALL_enter cp cp190]
    simp (disch := omega) only [c190, ↓R190, ↓f, a0, a1, a2, e2, k8, ↓RnP, RnQ, Nat.reduceEqDiff, Nat.reduceAdd, Nat.reduceMul, Nat.reduceSub, Nat.reduceLT, Nat.reduceLeDiff, Nat.reduceBEq, Int.reduceLT, Int.reduceLE, reduceCtorEq, Int.reduceToNat, Int.reduceAdd, Int.reduceSub, Int.reduceMul]
    all_goals first | (congr 1; done) | (congr 1; omega)
   ·have a2 : decide (((x : Nat) : Int) ≥ 256) = false := decide_eq_false (by omega)
    obtain ⟨t, t8, u1, u2, f⟩ := last x (by omega)
    have k8 := c8 x (by omega)
    have b1 := u1
    have b2 := u2
    refine ⟨t, by omega, b1, b2, fun h Q => CALL_det ?_ Q⟩
    rw [CALL_enter cp cp190]
    simp (disch := omega) only [c190, ↓R190, ↓f, a0, a1, a2, k8, ↓RnP, RnQ, Nat.reduceEqDiff, Nat.reduceAdd, Nat.reduceMul, Nat.reduceSub, Nat.reduceLT, Nat.reduceLeDiff, Nat.reduceBEq, Int.reduceLT, Int.reduceLE, reduceCtorEq, Int.reduceToNat, Int.reduceAdd, Int.reduceSub, Int.reduceMul]
    all_goals first | (congr 1; done) | (congr 1; omega)
theorem lz_ok (x : Nat) (hx : x < 18446744073709551616) (h0 : x ≠ 0) : ∃ s : Nat, s ≤ 63 ∧ 9223372036854775808 ≤ x * 2 ^ s ∧ x * 2 ^ s < 18446744073709551616 ∧ ∀ (h : Heap) (Q : Value → Heap → Prop), CALL cp 189 [.int .u64 x] h Q ↔ Q (.int .i64 s) h := by
 obtain ⟨n, hn, b, a, f⟩ := len64_ok x hx
 have a := a h0
 have hl : 1 ≤ n := by
  rcases Nat.eq_zero_or_pos n with e | e
  ·rw [e] at b; omega
  ·exact e
 have e : 2 ^ n * 2 ^ (64 - n) = 2 ^ 64 := by rw [← Nat.pow_add]; congr 1; omega
 refine ⟨64 - n, by omega, ?_, ?_, fun h Q => CALL_det ?_ Q⟩
 ·have := Nat.mul_le_mul_right (2 ^ (64 - n)) a
  rw [e, Nat.mul_assoc] at this
  omega
 ·have := Nat.mul_lt_mul_of_pos_right b (Nat.two_pow_pos (64 - n))
  rw [e] at this
  omega
 ·rw [CALL_enter cp cp189]
  simp (disch := omega) only [c189, ↓R189, f, ↓RnP, RnQ, Nat.reduceEqDiff, Nat.reduceAdd, Nat.reduceMul, Nat.reduceSub, Nat.reduceLT, Nat.reduceLeDiff, Nat.reduceBEq, Int.reduceLT, Int.reduceLE, reduceCtorEq, Int.reduceToNat, Int.reduceAdd, Int.reduceSub, Int.reduceMul]
  congr 1; omega
theorem digit_lt {u d y : Nat} (hu : u < y) (hd : d < 4294967296) : (u * 4294967296 + d) / y < 4294967296 := by
 rw [Nat.div_lt_iff_lt_mul (by omega)]
 have := Nat.mul_le_mul_left 4294967296 (show u + 1 ≤ y from hu)
 omega
theorem left_of (u d y q : Nat) (hy0 : 0 < y) (hy : y < 18446744073709551616) (hq : q = (u * 4294967296 + d) / y) :
  IntKind.u64.wrap (IntKind.u64.wrap (IntKind.u64.wrap ((u : Int) * 4294967296) + (d : Int)) - IntKind.u64.wrap ((q : Int) * (y : Int))) = (((u * 4294967296 + d) % y : Nat) : Int) := by
 have h1 := Nat.div_add_mod (u * 4294967296 + d) y
 have h2 := Nat.mod_lt (u * 4294967296 + d) hy0
 rw [← hq] at h1
 rw [← Int.natCast_mul, Nat.mul_comm q y]
 obtain ⟨B, hB⟩ : ∃ B, B = y * q := ⟨_, rfl⟩
 obtain ⟨r, hr⟩ : ∃ r, r = (u * 4294967296 + d) % y := ⟨_, rfl⟩
 rw [← hB] at h1 ⊢
 rw [← hr] at h1 h2 ⊢
 simp only [wu64]
 omega
theorem div_l0 (h : Heap) (y v1 v0 u d : Nat) (hy : y = v1 * 4294967296 + v0) (hv1 : 2147483648 ≤ v1) (hv1' : v1 < 4294967296) (hv0 : v0 < 4294967296) (hd : d < 4294967296) (hu : u < y) {Q : Post} (keep : List Nat) (hk1 : keep.elem 15 = false) (hk2 : keep.elem 16 = false) (hk3 : keep.all (fun t => t < 19) = true)
  (n q rhat : Nat) (h1 : 4294967296 ≤ rhat + n * v1) (h2 : q * v1 + rhat = u) (h3 : (u * 4294967296 + d) / y ≤ q) (h4 : q ≤ 4294967297) (h5 : rhat < 4294967296) (e : Env)
  (e9 : e 9 = .int .u64 v1) (e10 : e 10 = .int .u64 v0) (ed : e 13 = .int .u64 d) (eq : e 15 = .int .u64 q) (er : e 16 = .int .u64 rhat)
  (hQ : ∀ e', Agree keep e e' → e' 15 = .int .u64 (((u * 4294967296 + d) / y : Nat) : Int) → Q (.exit 0) e' h) : RunC cp (.loop c184_l0) e h Q := by
 have hy0 : 0 < y := by omega
 obtain ⟨Q0, hQ0⟩ : ∃ Q0, Q0 = (u * 4294967296 + d) / y := ⟨_, rfl⟩
 rw [← hQ0] at h3 hQ
 have kp : ∀ t, 19 ≤ t → keep.elem t = false := fun t ht => by
  cases hh : keep.elem t with
  | false => rfl
  | true =>
   have hm : t ∈ keep := List.elem_iff.1 hh
   have := List.all_eq_true.1 hk3 t hm
   simp at this; omega
 refine RunC_loop cp _ Q (fun n e' h' => h' = h ∧ Agree keep e e' ∧ e' 9 = .int .u64 v1 ∧ e' 10 = .int .u64 v0 ∧ e' 13 = .int .u64 d ∧ ∃ q rhat : Nat, e' 15 = .int .u64 q ∧ e' 16 = .int .u64 rhat ∧ 4294967296 ≤ rhat + n * v1 ∧ q * v1 + rhat = u ∧ Q0 ≤ q ∧ q ≤ 4294967297 ∧ rhat < 4294967296) ?_ n e h
  ⟨rfl, Agree.refl _ _, e9, e10, ed, q, rhat, eq, er, h1, h2, h3, h4, h5⟩
 clear h1 h2 h3 h4 h5 eq er e9 e10 ed
 rintro n e' h' ⟨rfl, ag, e9, e10, ed, q, rhat, eq, er, h1, h2, h3, h4, h5⟩
 have hti := @Digit.test_iff v1 v0 u d q rhat y hy h2
 by_cases c : 4294967296 ≤ q ∨ u * 4294967296 + d < q * y
 ·
  obtain ⟨n, rfl⟩ : ∃ m, n = m + 1 := ⟨n - 1, by
   rcases Nat.eq_zero_or_pos n with h0 | h0
   ·subst h0; omega
   ·omega⟩
  have hle : Q0 ≤ q - 1 := by
   rcases c with c | c
   ·have : Q0 < 4294967296 := by rw [hQ0]; exact digit_lt hu hd
    omega
   ·rw [hQ0]; exact Digit.less c
  have hq0 : 1 ≤ q := by
   rcases c with c | c
   ·omega
   ·rcases Nat.eq_zero_or_pos q with e | e
    ·subst e; omega
    ·exact e
  have h2' : (q - 1) * v1 + (rhat + v1) = u := by
   obtain ⟨p, rfl⟩ : ∃ p, q = p + 1 := ⟨q - 1, by omega⟩
   rw [Nat.add_mul] at h2; rw [Nat.add_sub_cancel]; omega
  have k1 : (q : Int) - 1 = ((q - 1 : Nat) : Int) := by omega
  have k2 : (rhat : Int) + (v1 : Int) = ((rhat + v1 : Nat) : Int) := by omega
  have h1' : 4294967296 ≤ (rhat + v1) + n * v1 := by rw [Nat.add_mul] at h1; omega
  have last : 4294967296 ≤ rhat + v1 → q - 1 = Q0 := fun c2 => by
   have hti2 := @Digit.test_iff v1 v0 u d (q - 1) (rhat + v1) y hy h2'
   have hp : (q - 1) * v0 ≤ 4294967296 * 4294967295 := Nat.mul_le_mul (by omega) (by omega)
   rw [hQ0]; refine Digit.same hy0 (by rw [← hQ0]; exact hle) (Nat.le_of_not_lt fun h => ?_)
   have := hti2.mp h
   omega
  by_cases cq : 4294967296 ≤ q
  ·have b1 : decide ((q : Int) ≥ 4294967296) = true := decide_eq_true (by omega)
   by_cases c2 : 4294967296 ≤ rhat + v1
   ·have b2 : decide (((rhat + v1 : Nat) : Int) ≥ 4294967296) = true := decide_eq_true (by omega)
    simp (disch := omega) only [c184_l0, c184, ↓R184, e9, e10, ed, eq, er, b1, b2, k1, k2, ↓RnP, RnQ, Nat.reduceEqDiff, Nat.reduceAdd, Nat.reduceMul, Nat.reduceSub, Nat.reduceLT, Nat.reduceLeDiff, Nat.reduceBEq, Int.reduceLT, Int.reduceLE, reduceCtorEq, Int.reduceToNat, Int.reduceAdd, Int.reduceSub, Int.reduceMul]
    refine hQ _ ?_ (by rw [← last c2]; rfl)
    repeat' (first | exact ag | (refine Agree.upd ?_ (by first | exact hk1 | exact hk2 | exact kp _ (by decide)) _))
   ·have b2 : decide (((rhat + v1 : Nat) : Int) ≥ 4294967296) = false := decide_eq_false (by omega)
    simp (disch := omega) only [c184_l0, c184, ↓R184, e9, e10, ed, eq, er, b1, b2, k1, k2, ↓RnP, RnQ, Nat.reduceEqDiff, Nat.reduceAdd, Nat.reduceMul, Nat.reduceSub, Nat.reduceLT, Nat.reduceLeDiff, Nat.reduceBEq, Int.reduceLT, Int.reduceLE, reduceCtorEq, Int.reduceToNat, Int.reduceAdd, Int.reduceSub, Int.reduceMul]
    refine ⟨n, by omega, ?_, q - 1, rhat + v1, rfl, rfl, h1', h2', hle, by omega, by omega⟩
    repeat' (first | exact ag | (refine Agree.upd ?_ (by first | exact hk1 | exact hk2 | exact kp _ (by decide)) _))
  ·have hp : q * v0 ≤ 4294967295 * 4294967295 := Nat.mul_le_mul (by omega) (by omega)
   have b1 : decide ((q : Int) ≥ 4294967296) = false := decide_eq_false (by omega)
   have w1 : IntKind.u64.wrap ((q : Int) * (v0 : Int)) = ((q * v0 : Nat) : Int) := by rw [← Int.natCast_mul, wrap_u64] <;> omega
   have b3 : decide (((q * v0 : Nat) : Int) > 4294967296 * (rhat : Int) + (d : Int)) = true := decide_eq_true (by have := hti.1 (c.resolve_left cq); omega)
   by_cases c2 : 4294967296 ≤ rhat + v1
   ·have b2 : decide (((rhat + v1 : Nat) : Int) ≥ 4294967296) = true := decide_eq_true (by omega)
    simp (disch := omega) only [c184_l0, c184, ↓R184, e9, e10, ed, eq, er, b1, b2, b3, w1, k1, k2, ↓RnP, RnQ, Nat.reduceEqDiff, Nat.reduceAdd, Nat.reduceMul, Nat.reduceSub, Nat.reduceLT, Nat.reduceLeDiff, Nat.reduceBEq, Int.reduceLT, Int.reduceLE, reduceCtorEq, Int.reduceToNat, Int.reduceAdd, Int.reduceSub, Int.reduceMul]
    refine hQ _ ?_ (by rw [← last c2]; rfl)
    repeat' (first | exact ag | (refine Agree.upd ?_ (by first | exact hk1 | exact hk2 | exact kp _ (by decide)) _))
   ·have b2 : decide (((rhat + v1 : Nat) : Int) ≥ 4294967296) = false := decide_eq_false (by omega)
    simp (disch := omega) only [c184_l0, c184, ↓R184, e9, e10, ed, eq, er, b1, b2, b3, w1, k1, k2, ↓RnP, RnQ, Nat.reduceEqDiff, Nat.reduceAdd, Nat.reduceMul, Nat.reduceSub, Nat.reduceLT, Nat.reduceLeDiff, Nat.reduceBEq, Int.reduceLT, Int.reduceLE, reduceCtorEq, Int.reduceToNat, Int.reduceAdd, Int.reduceSub, Int.reduceMul]
    refine ⟨n, by omega, ?_, q - 1, rhat + v1, rfl, rfl, h1', h2', hle, by omega, by omega⟩
    repeat' (first | exact ag | (refine Agree.upd ?_ (by first | exact hk1 | exact hk2 | exact kp _ (by decide)) _))
 ·
  have cq : q < 4294967296 := by omega
  have hsame : q = Q0 := by
   rw [hQ0]; refine Digit.same hy0 (by rw [← hQ0]; exact h3) (Nat.le_of_not_lt fun h => c (Or.inr h))
  have hp : q * v0 ≤ 4294967295 * 4294967295 := Nat.mul_le_mul (by omega) (by omega)
  have b1 : decide ((q : Int) ≥ 4294967296) = false := decide_eq_false (by omega)
  have w1 : IntKind.u64.wrap ((q : Int) * (v0 : Int)) = ((q * v0 : Nat) : Int) := by rw [← Int.natCast_mul, wrap_u64] <;> omega
  have b3 : decide (((q * v0 : Nat) : Int) > 4294967296 * (rhat : Int) + (d : Int)) = false := decide_eq_false (by
   have : ¬ rhat * 4294967296 + d < q * v0 := fun hh => c (.inr (hti.2 hh))
   omega)
  simp (disch := omega) only [c184_l0, c184, ↓R184, e9, e10, ed, eq, er, b1, b3, w1, ↓RnP, RnQ, Nat.reduceEqDiff, Nat.reduceAdd, Nat.reduceMul, Nat.reduceSub, Nat.reduceLT, Nat.reduceLeDiff, Nat.reduceBEq, Int.reduceLT, Int.reduceLE, reduceCtorEq, Int.reduceToNat, Int.reduceAdd, Int.reduceSub, Int.reduceMul]
  refine hQ _ ?_ (by rw [← hsame]; exact eq)
  repeat' (first | exact ag | (refine Agree.upd ?_ (by first | exact hk1 | exact hk2 | exact kp _ (by decide)) _))
theorem div_l1 (h : Heap) (y v1 v0 u d : Nat) (hy : y = v1 * 4294967296 + v0) (hv1 : 2147483648 ≤ v1) (hv1' : v1 < 4294967296) (hv0 : v0 < 4294967296) (hd : d < 4294967296) (hu : u < y) {Q : Post} (keep : List Nat) (hk1 : keep.elem 18 = false) (hk2 : keep.elem 16 = false) (hk3 : keep.all (fun t => t < 19) = true)
  (n q rhat : Nat) (h1 : 4294967296 ≤ rhat + n * v1) (h2 : q * v1 + rhat = u) (h3 : (u * 4294967296 + d) / y ≤ q) (h4 : q ≤ 4294967297) (h5 : rhat < 4294967296) (e : Env)
  (e9 : e 9 = .int .u64 v1) (e10 : e 10 = .int .u64 v0) (ed : e 14 = .int .u64 d) (eq : e 18 = .int .u64 q) (er : e 16 = .int .u64 rhat)
  (hQ : ∀ e', Agree keep e e' → e' 18 = .int .u64 (((u * 4294967296 + d) / y : Nat) : Int) → Q (.exit 2) e' h) : RunC cp (.loop c184_l1) e h Q := by
 have hy0 : 0 < y := by omega
 obtain ⟨Q0, hQ0⟩ : ∃ Q0, Q0 = (u * 4294967296 + d) / y := ⟨_, rfl⟩
 rw [← hQ0] at h3 hQ
 have kp : ∀ t, 19 ≤ t → keep.elem t = false := fun t ht => by
  cases hh : keep.elem t with
  | false => rfl
  | true =>
   have hm : t ∈ keep := List.elem_iff.1 hh
   have := List.all_eq_true.1 hk3 t hm
   simp at this; omega
 refine RunC_loop cp _ Q (fun n e' h' => h' = h ∧ Agree keep e e' ∧ e' 9 = .int .u64 v1 ∧ e' 10 = .int .u64 v0 ∧ e' 14 = .int .u64 d ∧ ∃ q rhat : Nat, e' 18 = .int .u64 q ∧ e' 16 = .int .u64 rhat ∧ 4294967296 ≤ rhat + n * v1 ∧ q * v1 + rhat = u ∧ Q0 ≤ q ∧ q ≤ 4294967297 ∧ rhat < 4294967296) ?_ n e h
  ⟨rfl, Agree.refl _ _, e9, e10, ed, q, rhat, eq, er, h1, h2, h3, h4, h5⟩
 clear h1 h2 h3 h4 h5 eq er e9 e10 ed
 rintro n e' h' ⟨rfl, ag, e9, e10, ed, q, rhat, eq, er, h1, h2, h3, h4, h5⟩
 have hti := @Digit.test_iff v1 v0 u d q rhat y hy h2
 by_cases c : 4294967296 ≤ q ∨ u * 4294967296 + d < q * y
 ·
  obtain ⟨n, rfl⟩ : ∃ m, n = m + 1 := ⟨n - 1, by
   rcases Nat.eq_zero_or_pos n with h0 | h0
   ·subst h0; omega
   ·omega⟩
  have hle : Q0 ≤ q - 1 := by
   rcases c with c | c
   ·have : Q0 < 4294967296 := by rw [hQ0]; exact digit_lt hu hd
    omega
   ·rw [hQ0]; exact Digit.less c
  have hq0 : 1 ≤ q := by
   rcases c with c | c
   ·omega
   ·rcases Nat.eq_zero_or_pos q with e | e
    ·subst e; omega
    ·exact e
  have h2' : (q - 1) * v1 + (rhat + v1) = u := by
   obtain ⟨p, rfl⟩ : ∃ p, q = p + 1 := ⟨q - 1, by omega⟩
   rw [Nat.add_mul] at h2; rw [Nat.add_sub_cancel]; omega
  have k1 : (q : Int) - 1 = ((q - 1 : Nat) : Int) := by omega
  have k2 : (rhat : Int) + (v1 : Int) = ((rhat + v1 : Nat) : Int) := by omega
  have h1' : 4294967296 ≤ (rhat + v1) + n * v1 := by rw [Nat.add_mul] at h1; omega
  have last : 4294967296 ≤ rhat + v1 → q - 1 = Q0 := fun c2 => by
   have hti2 := @Digit.test_iff v1 v0 u d (q - 1) (rhat + v1) y hy h2'
   have hp : (q - 1) * v0 ≤ 4294967296 * 4294967295 := Nat.mul_le_mul (by omega) (by omega)
   rw [hQ0]; refine Digit.same hy0 (by rw [← hQ0]; exact hle) (Nat.le_of_not_lt fun h => ?_)
   have := hti2.mp h
   omega
  by_cases cq : 4294967296 ≤ q
  ·have b1 : decide ((q : Int) ≥ 4294967296) = true := decide_eq_true (by omega)
   by_cases c2 : 4294967296 ≤ rhat + v1
   ·have b2 : decide (((rhat + v1 : Nat) : Int) ≥ 4294967296) = true := decide_eq_true (by omega)
    simp (disch := omega) only [c184_l1, c184, ↓R184, e9, e10, ed, eq, er, b1, b2, k1, k2, ↓RnP, RnQ, Nat.reduceEqDiff, Nat.reduceAdd, Nat.reduceMul, Nat.reduceSub, Nat.reduceLT, Nat.reduceLeDiff, Nat.reduceBEq, Int.reduceLT, Int.reduceLE, reduceCtorEq, Int.reduceToNat, Int.reduceAdd, Int.reduceSub, Int.reduceMul]
    refine hQ _ ?_ (by rw [← last c2]; rfl)
    repeat' (first | exact ag | (refine Agree.upd ?_ (by first | exact hk1 | exact hk2 | exact kp _ (by decide)) _))
   ·have b2 : decide (((rhat + v1 : Nat) : Int) ≥ 4294967296) = false := decide_eq_false (by omega)
    simp (disch := omega) only [c184_l1, c184, ↓R184, e9, e10, ed, eq, er, b1, b2, k1, k2, ↓RnP, RnQ, Nat.reduceEqDiff, Nat.reduceAdd, Nat.reduceMul, Nat.reduceSub, Nat.reduceLT, Nat.reduceLeDiff, Nat.reduceBEq, Int.reduceLT, Int.reduceLE, reduceCtorEq, Int.reduceToNat, Int.reduceAdd, Int.reduceSub, Int.reduceMul]
    refine ⟨n, by omega, ?_, q - 1, rhat + v1, rfl, rfl, h1', h2', hle, by omega, by omega⟩
    repeat' (first | exact ag | (refine Agree.upd ?_ (by first | exact hk1 | exact hk2 | exact kp _ (by decide)) _))
  ·have hp : q * v0 ≤ 4294967295 * 4294967295 := Nat.mul_le_mul (by omega) (by omega)
   have b1 : decide ((q : Int) ≥ 4294967296) = false := decide_eq_false (by omega)
   have w1 : IntKind.u64.wrap ((q : Int) * (v0 : Int)) = ((q * v0 : Nat) : Int) := by rw [← Int.natCast_mul, wrap_u64] <;> omega
   have b3 : decide (((q * v0 : Nat) : Int) > 4294967296 * (rhat : Int) + (d : Int)) = true := decide_eq_true (by have := hti.1 (c.resolve_left cq); omega)
   by_cases c2 : 4294967296 ≤ rhat + v1
   ·have b2 : decide (((rhat + v1 : Nat) : Int) ≥ 4294967296) = true := decide_eq_true (by omega)
    simp (disch := omega) only [c184_l1, c184, ↓R184, e9, e10, ed, eq, er, b1, b2, b3, w1, k1, k2, ↓RnP, RnQ, Nat.reduceEqDiff, Nat.reduceAdd, Nat.reduceMul, Nat.reduceSub, Nat.reduceLT, Nat.reduceLeDiff, Nat.reduceBEq, Int.reduceLT, Int.reduceLE, reduceCtorEq, Int.reduceToNat, Int.reduceAdd, Int.reduceSub, Int.reduceMul]
    refine hQ _ ?_ (by rw [← last c2]; rfl)
    repeat' (first | exact ag | (refine Agree.upd ?_ (by first | exact hk1 | exact hk2 | exact kp _ (by decide)) _))
   ·have b2 : decide (((rhat + v1 : Nat) : Int) ≥ 4294967296) = false := decide_eq_false (by omega)
    simp (disch := omega) only [c184_l1, c184, ↓R184, e9, e10, ed, eq, er, b1, b2, b3, w1, k1, k2, ↓RnP, RnQ, Nat.reduceEqDiff, Nat.reduceAdd, Nat.reduceMul, Nat.reduceSub, Nat.reduceLT, Nat.reduceLeDiff, Nat.reduceBEq, Int.reduceLT, Int.reduceLE, reduceCtorEq, Int.reduceToNat, Int.reduceAdd, Int.reduceSub, Int.reduceMul]
    refine ⟨n, by omega, ?_, q - 1, rhat + v1, rfl, rfl, h1', h2', hle, by omega, by omega⟩
    repeat' (first | exact ag | (refine Agree.upd ?_ (by first | exact hk1 | exact hk2 | exact kp _ (by decide)) _))
 ·
  have cq : q < 4294967296 := by omega
  have hsame : q = Q0 := by
   rw [hQ0]; refine Digit.same hy0 (by rw [← hQ0]; exact h3) (Nat.le_of_not_lt fun h => c (Or.inr h))
  have hp : q * v0 ≤ 4294967295 * 4294967295 := Nat.mul_le_mul (by omega) (by omega)
  have b1 : decide ((q : Int) ≥ 4294967296) = false := decide_eq_false (by omega)
  have w1 : IntKind.u64.wrap ((q : Int) * (v0 : Int)) = ((q * v0 : Nat) : Int) := by rw [← Int.natCast_mul, wrap_u64] <;> omega
  have b3 : decide (((q * v0 : Nat) : Int) > 4294967296 * (rhat : Int) + (d : Int)) = false := decide_eq_false (by
   have : ¬ rhat * 4294967296 + d < q * v0 := fun hh => c (.inr (hti.2 hh))
   omega)
  simp (disch := omega) only [c184_l1, c184, ↓R184, e9, e10, ed, eq, er, b1, b3, w1, ↓RnP, RnQ, Nat.reduceEqDiff, Nat.reduceAdd, Nat.reduceMul, Nat.reduceSub, Nat.reduceLT, Nat.reduceLeDiff, Nat.reduceBEq, Int.reduceLT, Int.reduceLE, reduceCtorEq, Int.reduceToNat, Int.reduceAdd, Int.reduceSub, Int.reduceMul]
  refine hQ _ ?_ (by rw [← hsame]; exact eq)
  repeat' (first | exact ag | (refine Agree.upd ?_ (by first | exact hk1 | exact hk2 | exact kp _ (by decide)) _))
theorem or_u64 (i : Nat) (x y : Int) (hx0 : 0 ≤ x) (hx : x % 2 ^ i = 0) (hx1 : x < 18446744073709551616) (hy0 : 0 ≤ y) (hy : y < 2 ^ i) (hy1 : y < 18446744073709551616) :
  IntKind.u64.wrap ((BitVec.ofInt IntKind.u64.bits x ||| BitVec.ofInt IntKind.u64.bits y).toNat : Int) = x + y :=
 bits_join .u64 64 (by decide) (u64_low 64 (by decide)) i x y hx0 hx (by omega) hy0 hy (by omega)
theorem guess_of (U v1 : Nat) (hv : 0 < v1) (hU : U < 18446744073709551616) : IntKind.u64.wrap (Int.tdiv (U : Int) (v1 : Int)) = ((U / v1 : Nat) : Int) ∧ IntKind.u64.wrap ((U : Int) - IntKind.u64.wrap (((U / v1 : Nat) : Int) * (v1 : Int))) = ((U % v1 : Nat) : Int) := by
 have hm : U / v1 * v1 + U % v1 = U := by rw [Nat.mul_comm]; exact Nat.div_add_mod U v1
 have h1 : U / v1 ≤ U := Nat.div_le_self _ _
 constructor
 ·rw [tdiv_nn _ _ (by omega), ← Int.natCast_ediv, wrap_u64 (Int.natCast_nonneg _) (by omega)]
 ·rw [← Int.natCast_mul, wrap_u64 (n := ((U / v1 * v1 : Nat) : Int)) (by omega) (by omega), wrap_u64 (by omega) (by omega)]
  omega
set_option maxHeartbeats 1000000 in
theorem div64_ok (h : Heap) (hi lo y : Nat) (hhi : hi < y) (hlo : lo < 18446744073709551616) (hy : y < 18446744073709551616) (Q : Value → Heap → Prop) :
  CALL cp 184 [.int .u64 hi, .int .u64 lo, .int .u64 y] h Q ↔ Q (.tuple #[.int .u64 (((hi * 18446744073709551616 + lo) / y : Nat) : Int), .int .u64 (((hi * 18446744073709551616 + lo) % y : Nat) : Int)]) h := by
 refine CALL_det ?_ Q
 rw [CALL_enter cp cp184]
 have hy0 : y ≠ 0 := by omega
 have a1 : ((y : Int) == 0) = false := beq_eq_false_iff_ne.2 (by omega)
 have a2 : decide ((y : Int) ≤ (hi : Int)) = false := decide_eq_false (by omega)
 by_cases h0 : hi = 0
 ·subst h0
  have z0 : (((0 : Nat) : Int) == 0) = true := rfl
  have n0 : ((y : Int) = 0) = False := by simp; omega
  have e1 : IntKind.u64.wrap (Int.tdiv (lo : Int) (y : Int)) = ((lo / y : Nat) : Int) := (guess_of lo y (by omega) hlo).1
  have e2 : Int.tmod (lo : Int) (y : Int) = ((lo % y : Nat) : Int) := by rw [tmod_nn _ _ (by omega), ← Int.natCast_emod]
  simp (disch := omega) only [c184, ↓R184, a1, a2, z0, n0, e1, e2, Nat.zero_mul, ↓RnP, RnQ, Nat.reduceEqDiff, Nat.reduceAdd, Nat.reduceMul, Nat.reduceSub, Nat.reduceLT, Nat.reduceLeDiff, Nat.reduceBEq, Int.reduceLT, Int.reduceLE, reduceCtorEq, Int.reduceToNat, Int.reduceAdd, Int.reduceSub, Int.reduceMul]
 have a3 : ((hi : Int) == 0) = false := beq_eq_false_iff_ne.2 (by omega)
 obtain ⟨s, hs, hn1, hn2, flz⟩ := lz_ok y hy hy0
 have hp : 0 < 2 ^ s := Nat.two_pow_pos s
 have hps : 2 ^ s * 2 ^ (64 - s) = 18446744073709551616 := by rw [← Nat.pow_add, show s + (64 - s) = 64 from by omega]
 have k64 : (64 - (s : Int)).toNat = 64 - s := by omega
 have sh : ∀ (y k : Nat), k ≤ 64 → ((y : Nat) : Int).fdiv (2 ^ (min k IntKind.u64.bits)) = ((y / 2 ^ k : Nat) : Int) := fun y k hk => by
  rw [shr_k .u64 _ k hk, Int.natCast_ediv, Int.natCast_pow]; rfl
 have sl : ∀ (x : Nat), IntKind.u64.wrap ((x : Int) * 2 ^ (min s IntKind.u64.bits)) = ((x * 2 ^ s % 18446744073709551616 : Nat) : Int) := fun x => by
  rw [shl_k .u64 _ s (by show s ≤ 64; omega), wu64, Int.natCast_emod, Int.natCast_mul, Int.natCast_pow]; rfl
 have ey := sl y
 rw [Nat.mod_eq_of_lt hn2] at ey
 have eh := sl hi
 have hhs' : hi * 2 ^ s < y * 2 ^ s := Nat.mul_lt_mul_of_pos_right hhi hp
 rw [Nat.mod_eq_of_lt (by omega)] at eh
 have el := sh lo (64 - s) (by omega)
 have el2 := sl lo
 have hlq : lo / 2 ^ (64 - s) < 2 ^ s := by
  rw [Nat.div_lt_iff_lt_mul (Nat.two_pow_pos _), hps]; exact hlo
 have hhs : hi * 2 ^ s + 2 ^ s ≤ y * 2 ^ s := by
  have := Nat.mul_le_mul_right (2 ^ s) (show hi + 1 ≤ y from hhi)
  rw [Nat.add_mul, Nat.one_mul] at this; exact this
 have eor : IntKind.u64.wrap ((BitVec.ofInt IntKind.u64.bits ((hi * 2 ^ s : Nat) : Int) ||| BitVec.ofInt IntKind.u64.bits ((lo / 2 ^ (64 - s) : Nat) : Int)).toNat : Int) = ((hi * 2 ^ s + lo / 2 ^ (64 - s) : Nat) : Int) := by
  have hm : ((hi * 2 ^ s : Nat) : Int) % 2 ^ s = 0 := by
   have : ((hi * 2 ^ s % 2 ^ s : Nat) : Int) = 0 := by rw [Nat.mul_mod_left]; rfl
   rw [Int.natCast_emod, Int.natCast_pow] at this; exact this
  have hlq' : ((lo / 2 ^ (64 - s) : Nat) : Int) < 2 ^ s := by
   have : ((lo / 2 ^ (64 - s) : Nat) : Int) < ((2 ^ s : Nat) : Int) := by exact_mod_cast hlq
   rw [Int.natCast_pow] at this; exact this
  clear el el2 eh ey hps sl sh k64 flz
  generalize hi * 2 ^ s = A at *
  generalize lo / 2 ^ (64 - s) = B at *
  generalize y * 2 ^ s = C at *
  generalize hD : (2 : Nat) ^ s = D at *
  rw [or_u64 s _ _ (Int.natCast_nonneg _) hm (by omega) (Int.natCast_nonneg _) hlq' (by omega)]; omega
 obtain ⟨Y, hY⟩ : ∃ Y, Y = y * 2 ^ s := ⟨_, rfl⟩
 obtain ⟨U, hU⟩ : ∃ U, U = hi * 2 ^ s + lo / 2 ^ (64 - s) := ⟨_, rfl⟩
 obtain ⟨L, hL⟩ : ∃ L, L = lo * 2 ^ s % 18446744073709551616 := ⟨_, rfl⟩
 have hsum : (hi * 18446744073709551616 + lo) * 2 ^ s = U * 18446744073709551616 + L / 4294967296 * 4294967296 + L % 4294967296 := by
  have e1 : lo * 2 ^ s / 18446744073709551616 = lo / 2 ^ (64 - s) := by
   rw [← hps, Nat.mul_comm (2 ^ s), Nat.mul_div_mul_right _ _ hp]
  have e2 := Nat.div_add_mod (lo * 2 ^ s) 18446744073709551616
  rw [e1, ← hL] at e2
  rw [hU, Nat.add_mul, Nat.mul_assoc, Nat.mul_comm 18446744073709551616, ← Nat.mul_assoc, Nat.add_mul]
  generalize hi * 2 ^ s = A
  omega
 have hLlt : L < 18446744073709551616 := by rw [hL]; exact Nat.mod_lt _ (by decide)
 have hUY : U < Y := by rw [hU, hY]; omega
 have hd := Digit.shifted (hi * 18446744073709551616 + lo) y s
 rw [← hY] at hn1 hn2 hd ey
 rw [← hU] at eor
 rw [← hL] at el2
 obtain ⟨v1, hv1⟩ : ∃ v, v = Y / 4294967296 := ⟨_, rfl⟩
 obtain ⟨v0, hv0⟩ : ∃ v, v = Y % 4294967296 := ⟨_, rfl⟩
 obtain ⟨d1, hd1⟩ : ∃ v, v = L / 4294967296 := ⟨_, rfl⟩
 obtain ⟨d0, hd0⟩ : ∃ v, v = L % 4294967296 := ⟨_, rfl⟩
 have i1 := sh Y 32 (by decide)
 rw [show (2 : Nat) ^ 32 = 4294967296 from rfl, ← hv1] at i1
 have i2 : IntKind.u64.wrap ((BitVec.ofInt IntKind.u64.bits (Y : Int) &&& BitVec.ofInt IntKind.u64.bits 4294967295).toNat : Int) = (v0 : Int) := by
  rw [and_u64 32 (by decide) _ _ (by decide)]
  have : (2 : Int) ^ 32 = 4294967296 := by decide
  rw [this]; omega
 have i3 := sh L 32 (by decide)
 rw [show (2 : Nat) ^ 32 = 4294967296 from rfl, ← hd1] at i3
 have i4 : IntKind.u64.wrap ((BitVec.ofInt IntKind.u64.bits (L : Int) &&& BitVec.ofInt IntKind.u64.bits 4294967295).toNat : Int) = (d0 : Int) := by
  rw [and_u64 32 (by decide) _ _ (by decide)]
  have : (2 : Int) ^ 32 = 4294967296 := by decide
  rw [this]; omega
 have v1p : 0 < v1 := by omega
 have nv : ((v1 : Int) = 0) = False := by simp; omega
 obtain ⟨q1, q2⟩ := guess_of U v1 v1p (by omega)
 have q2' : (U : Int) - ((U / v1 : Nat) : Int) * (v1 : Int) = ((U % v1 : Nat) : Int) := by
  have hm : U / v1 * v1 + U % v1 = U := by rw [Nat.mul_comm]; exact Nat.div_add_mod U v1
  rw [← Int.natCast_mul]; omega
 have hyv : Y = v1 * 4294967296 + v0 := by omega
 have hUm : U / v1 * v1 + U % v1 = U := by rw [Nat.mul_comm]; exact Nat.div_add_mod U v1
 have hUl : U % v1 < v1 := Nat.mod_lt _ v1p
 have gs : ∀ u d : Nat, d < 4294967296 → (u * 4294967296 + d) / Y ≤ u / v1 := fun u d hd => by
  rcases Digit.guess (u := u) (d := d) hyv v1p with h | h
  ·exact h
  ·omega
 simp (disch := omega) only [c184, ↓R184, a1, a2, a3, flz, ey, eh, el, el2, eor, k64, i1, i2, i3, i4, nv, q1, q2, q2', ↓RnP, RnQ, Nat.reduceEqDiff, Nat.reduceAdd, Nat.reduceMul, Nat.reduceSub, Nat.reduceLT, Nat.reduceLeDiff, Nat.reduceBEq, Int.reduceLT, Int.reduceLE, reduceCtorEq, Int.reduceToNat, Int.reduceAdd, Int.reduceSub, Int.reduceMul]
 refine div_l0 h Y v1 v0 U d1 hyv (by omega) (by omega) (by omega) (by omega) hUY [2, 8, 9, 11, 13, 10, 14] (by decide) (by decide) (by decide) 2 (U / v1) (U % v1) (by omega) hUm (gs U d1 (by omega)) (Digit.guess_max hyv (by omega) (by omega) hUY) (by omega) _ rfl rfl rfl rfl rfl fun e ag e15 => ?_
 have e2 : e 2 = .int .u64 Y := ag 2 (by decide)
 have e8 : e 8 = .int .u64 s := ag 8 (by decide)
 have e9 : e 9 = .int .u64 v1 := ag 9 (by decide)
 have e10 : e 10 = .int .u64 v0 := ag 10 (by decide)
 have e11 : e 11 = .int .u64 U := ag 11 (by decide)
 have e13 : e 13 = .int .u64 d1 := ag 13 (by decide)
 have e14 : e 14 = .int .u64 d0 := ag 14 (by decide)
 have hr := left_of U d1 Y _ (by omega) hn2 rfl
 have hQlt := digit_lt (u := U) (d := d1) (y := Y) hUY (by omega)
 obtain ⟨Q1, hQ1⟩ : ∃ z, (U * 4294967296 + d1) / Y = z := ⟨_, rfl⟩
 rw [hQ1] at hr e15 hQlt
 have hU2 : (U * 4294967296 + d1) % Y < Y := Nat.mod_lt _ (by omega)
 obtain ⟨U2, hU2d⟩ : ∃ z, (U * 4294967296 + d1) % Y = z := ⟨_, rfl⟩
 rw [hU2d] at hr hU2
 obtain ⟨q3, q4⟩ := guess_of U2 v1 v1p (by omega)
 have q4' : (U2 : Int) - ((U2 / v1 : Nat) : Int) * (v1 : Int) = ((U2 % v1 : Nat) : Int) := by
  have hm : U2 / v1 * v1 + U2 % v1 = U2 := by rw [Nat.mul_comm]; exact Nat.div_add_mod U2 v1
  rw [← Int.natCast_mul]; omega
 have hUm2 : U2 / v1 * v1 + U2 % v1 = U2 := by rw [Nat.mul_comm]; exact Nat.div_add_mod U2 v1
 have hUl2 : U2 % v1 < v1 := Nat.mod_lt _ v1p
 simp (disch := omega) only [c184, ↓R184, e2, e9, e11, e13, e15, hr, nv, q3, q4, q4', ↓RnP, RnQ, Nat.reduceEqDiff, Nat.reduceAdd, Nat.reduceMul, Nat.reduceSub, Nat.reduceLT, Nat.reduceLeDiff, Nat.reduceBEq, Int.reduceLT, Int.reduceLE, reduceCtorEq, Int.reduceToNat, Int.reduceAdd, Int.reduceSub, Int.reduceMul]
 refine div_l1 h Y v1 v0 U2 d0 hyv (by omega) (by omega) (by omega) (by omega) hU2 [2, 8, 14, 15, 17] (by decide) (by decide) (by decide) 2 (U2 / v1) (U2 % v1) (by omega) hUm2 (gs U2 d0 (by omega)) (Digit.guess_max hyv (by omega) (by omega) hU2) (by omega) _ e9 e10 e14 rfl rfl fun f ag2 f18 => ?_
 have f2 : f 2 = .int .u64 Y := (ag2 2 (by decide)).trans e2
 have f8 : f 8 = .int .u64 s := (ag2 8 (by decide)).trans e8
 have f14 : f 14 = .int .u64 d0 := (ag2 14 (by decide)).trans e14
 have f15 : f 15 = .int .u64 Q1 := (ag2 15 (by decide)).trans e15
 have f17 : f 17 = .int .u64 U2 := ag2 17 (by decide)
 have hr2 := left_of U2 d0 Y _ (by omega) hn2 rfl
 have hQlt2 := digit_lt (u := U2) (d := d0) (y := Y) hU2 (by omega)
 have hr3 := sh ((U2 * 4294967296 + d0) % Y) s (by omega)
 obtain ⟨t1, t2⟩ := Digit.two (u := U) (d1 := d1) (d0 := d0) (y := Y) (by omega)
 simp only [hQ1, hU2d] at t1 t2
 have hUs : U * 18446744073709551616 + d1 * 4294967296 + d0 = (hi * 18446744073709551616 + lo) * 2 ^ s := by rw [hsum, hd1, hd0]
 rw [hUs, hd.1] at t1
 rw [hUs] at t2
 rw [← t2, hd.2] at hr3
 rw [← t2] at hr2
 obtain ⟨Q2, hQ2⟩ : ∃ z, (U2 * 4294967296 + d0) / Y = z := ⟨_, rfl⟩
 rw [hQ2] at hr2 f18 hQlt2 t1
 simp (disch := omega) only [c184, ↓R184, f2, f8, f14, f15, f17, f18, hr2, hr3, ↓RnP, RnQ, Nat.reduceEqDiff, Nat.reduceAdd, Nat.reduceMul, Nat.reduceSub, Nat.reduceLT, Nat.reduceLeDiff, Nat.reduceBEq, Int.reduceLT, Int.reduceLE, reduceCtorEq, Int.reduceToNat, Int.reduceAdd, Int.reduceSub, Int.reduceMul]
 rw [t1]
 congr 3
end Go.Proofs.YtlakhgibjfmjjaaGreat.Can
namespace Go.Proofs.YtlakhgibjfmjjaaGreat.Can
open Go
attribute [local congr] RunR_congr RunC_congr afterR_congr guardR_congr condQ_congr CALL_congr finQ_congr op_congr opg_congr
theorem fof_ok (h : Heap) (x : Nat) (hx : x < 18446744073709551616) (Q : Value → Heap → Prop) : CALL cp 90 [.int .u64 x] h Q ↔ Q (.int .u64 ((x % 2305843009213693951 : Nat) : Int)) h := by
 refine CALL_det ?_ Q
 rw [CALL_enter cp cp90]
 have m1 := fun x : Int => and_u64 61 (by decide) x 2305843009213693951 (by decide)
 have s1 := fun x : Int => shr_k .u64 x 61 (by decide)
 have p61 : (2 : Int) ^ 61 = 2305843009213693952 := by decide
 by_cases c : 2305843009213693951 ≤ x / 2305843009213693952 + x % 2305843009213693952
 ·have a1 : decide ((x : Int) / 2305843009213693952 + (x : Int) % 2305843009213693952 ≥ 2305843009213693951) = true := decide_eq_true (by omega)
  simp (disch := omega) only [c90, ↓R90, m1, s1, p61, a1, ↓RnP, RnQ, Nat.reduceEqDiff, Nat.reduceAdd, Nat.reduceMul, Nat.reduceSub, Nat.reduceLT, Nat.reduceLeDiff, Nat.reduceBEq, Int.reduceLT, Int.reduceLE, reduceCtorEq, Int.reduceToNat, Int.reduceAdd, Int.reduceSub, Int.reduceMul]
  congr 1; omega
 ·have a1 : decide ((x : Int) / 2305843009213693952 + (x : Int) % 2305843009213693952 ≥ 2305843009213693951) = false := decide_eq_false (by omega)
  simp (disch := omega) only [c90, ↓R90, m1, s1, p61, a1, ↓RnP, RnQ, Nat.reduceEqDiff, Nat.reduceAdd, Nat.reduceMul, Nat.reduceSub, Nat.reduceLT, Nat.reduceLeDiff, Nat.reduceBEq, Int.reduceLT, Int.reduceLE, reduceCtorEq, Int.reduceToNat, Int.reduceAdd, Int.reduceSub, Int.reduceMul]
  congr 1; omega
theorem fadd_ok (h : Heap) (a b : Nat) (hx : a + b < 18446744073709551616) (Q : Value → Heap → Prop) : CALL cp 186 [.int .u64 a, .int .u64 b] h Q ↔ Q (.int .u64 (((a + b) % 2305843009213693951 : Nat) : Int)) h := by
 refine CALL_det ?_ Q
 rw [CALL_enter cp cp186]
 have e : ((a : Int) + (b : Int)) = ((a + b : Nat) : Int) := by omega
 have f := fun h => fof_ok h (a + b) hx
 simp (disch := omega) only [c186, ↓R186, e, f, ↓RnP, RnQ, Nat.reduceEqDiff, Nat.reduceAdd, Nat.reduceMul, Nat.reduceSub, Nat.reduceLT, Nat.reduceLeDiff, Nat.reduceBEq, Int.reduceLT, Int.reduceLE, reduceCtorEq, Int.reduceToNat, Int.reduceAdd, Int.reduceSub, Int.reduceMul]
theorem fold61 (n : Nat) : (n / 2305843009213693952 % 2305843009213693951 + n % 2305843009213693952 % 2305843009213693951) % 2305843009213693951 = n % 2305843009213693951 := by
 omega
theorem fmul_ok (h : Heap) (a b : Nat) (ha : a < 2305843009213693952) (hb : b < 2305843009213693952) (Q : Value → Heap → Prop) : CALL cp 187 [.int .u64 a, .int .u64 b] h Q ↔ Q (.int .u64 ((a * b % 2305843009213693951 : Nat) : Int)) h := by
 refine CALL_det ?_ Q
 rw [CALL_enter cp cp187]
 obtain ⟨n, hn⟩ : ∃ n, n = a * b := ⟨_, rfl⟩
 have hnl : n ≤ 2305843009213693951 * 2305843009213693951 := by rw [hn]; exact Nat.mul_le_mul (by omega) (by omega)
 have f1 : ∀ (h : Heap) (Q : Value → Heap → Prop), CALL cp 85 [.int .u64 a, .int .u64 b] h Q ↔ Q (.tuple #[.int .u64 ((n / 18446744073709551616 : Nat) : Int), .int .u64 ((n % 18446744073709551616 : Nat) : Int)]) h := fun h Q => by
  have e : ((a : Int) * (b : Int)) = (n : Int) := by rw [hn, Int.natCast_mul]
  rw [mul64_ok h a b (by unfold U64; omega) (by unfold U64; omega), e]; rfl
 have m1 := fun x : Int => and_u64 61 (by decide) x 2305843009213693951 (by decide)
 have s1 := fun x : Int => shr_k .u64 x 61 (by decide)
 have s3 := fun x : Int => shl_k .u64 x 3 (by decide)
 have p61 : (2 : Int) ^ 61 = 2305843009213693952 := by decide
 have p3 : (2 : Int) ^ 3 = 8 := by decide
 have eor : IntKind.u64.wrap ((BitVec.ofInt IntKind.u64.bits (((n / 18446744073709551616 : Nat) : Int) * 8) ||| BitVec.ofInt IntKind.u64.bits (((n % 18446744073709551616 : Nat) : Int) / 2305843009213693952)).toNat : Int) = ((n / 2305843009213693952 : Nat) : Int) := by
  rw [or_u64 3 _ _ (by omega) (by rw [p3]; omega) (by omega) (by omega) (by rw [p3]; omega) (by omega)]; omega
 have t1 : Int.tmod (((n % 18446744073709551616 : Nat) : Int) % 2305843009213693952) 2305843009213693951 = ((n % 2305843009213693952 % 2305843009213693951 : Nat) : Int) := by
  rw [tmod_nn _ _ (by omega)]; omega
 have f2 := fun h => fof_ok h (n / 2305843009213693952) (by omega)
 have f3 := fun h => fadd_ok h (n / 2305843009213693952 % 2305843009213693951) (n % 2305843009213693952 % 2305843009213693951) (by omega)
 simp (disch := omega) only [c187, ↓R187, f1, m1, s1, s3, p61, p3, eor, t1, f2, f3, ↓RnP, RnQ, Nat.reduceEqDiff, Nat.reduceAdd, Nat.reduceMul, Nat.reduceSub, Nat.reduceLT, Nat.reduceLeDiff, Nat.reduceBEq, Int.reduceLT, Int.reduceLE, reduceCtorEq, Int.reduceToNat, Int.reduceAdd, Int.reduceSub, Int.reduceMul]
 rw [fold61, hn]
theorem divide_ok (h : Heap) (a b c : Nat) (ha : a < 18446744073709551616) (hb : b < 18446744073709551616) (hc : c < 18446744073709551616) (hf : a * b / 18446744073709551616 < c) (Q : Value → Heap → Prop) :
  CALL cp 181 [.int .u64 a, .int .u64 b, .int .u64 c] h Q ↔ Q (.tuple #[.int .u64 ((a * b / c : Nat) : Int), .int .u64 ((a * b % c : Nat) : Int), .bool true]) h := by
 refine CALL_det ?_ Q
 rw [CALL_enter cp cp181]
 have f1 : ∀ (h : Heap) (Q : Value → Heap → Prop), CALL cp 85 [.int .u64 a, .int .u64 b] h Q ↔ Q (.tuple #[.int .u64 ((a * b / 18446744073709551616 : Nat) : Int), .int .u64 ((a * b % 18446744073709551616 : Nat) : Int)]) h := fun h Q => by
  rw [mul64_ok h a b (by unfold U64; omega) (by unfold U64; omega)]; rfl
 have a1 : ((c : Int) == 0) = false := beq_eq_false_iff_ne.2 (by omega)
 have a2 : decide (((a * b / 18446744073709551616 : Nat) : Int) ≥ (c : Int)) = false := decide_eq_false (by omega)
 have f2 := fun h => div64_ok h (a * b / 18446744073709551616) (a * b % 18446744073709551616) c hf (Nat.mod_lt _ (by decide)) hc
 have e : a * b / 18446744073709551616 * 18446744073709551616 + a * b % 18446744073709551616 = a * b := by rw [Nat.mul_comm (a * b / _)]; exact Nat.div_add_mod _ _
 rw [e] at f2
 simp (disch := omega) only [c181, ↓R181, f1, f2, a1, a2, ↓RnP, RnQ, Nat.reduceEqDiff, Nat.reduceAdd, Nat.reduceMul, Nat.reduceSub, Nat.reduceLT, Nat.reduceLeDiff, Nat.reduceBEq, Int.reduceLT, Int.reduceLE, reduceCtorEq, Int.reduceToNat, Int.reduceAdd, Int.reduceSub, Int.reduceMul]
theorem down_ok (h : Heap) (a b c : Nat) (ha : a < 18446744073709551616) (hb : b < 18446744073709551616) (hc : c < 18446744073709551616) (hf : a * b / 18446744073709551616 < c) (Q : Value → Heap → Prop) :
  CALL cp 185 [.int .u64 a, .int .u64 b, .int .u64 c] h Q ↔ Q (.tuple #[.int .u64 ((a * b / c : Nat) : Int), .bool true]) h := by
 refine CALL_det ?_ Q
 rw [CALL_enter cp cp185]
 have f := fun h => divide_ok h a b c ha hb hc hf
 simp (disch := omega) only [c185, ↓R185, f, ↓RnP, RnQ, Nat.reduceEqDiff, Nat.reduceAdd, Nat.reduceMul, Nat.reduceSub, Nat.reduceLT, Nat.reduceLeDiff, Nat.reduceBEq, Int.reduceLT, Int.reduceLE, reduceCtorEq, Int.reduceToNat, Int.reduceAdd, Int.reduceSub, Int.reduceMul]
theorem place_ok (h : Heap) (x n : Nat) (hx : x < 2305843009213693951) (hn : 1 ≤ n) (hm : n < 9223372036854775808) (Q : Value → Heap → Prop) :
  CALL cp 182 [.int .u64 x, .int .i64 n] h Q ↔ Q (.int .i64 ((x * n / 2305843009213693951 : Nat) : Int)) h := by
 refine CALL_det ?_ Q
 rw [CALL_enter cp cp182]
 have hp : x * n ≤ 2305843009213693950 * 9223372036854775807 := Nat.mul_le_mul (by omega) (by omega)
 have hpn : x * n ≤ 2305843009213693951 * n := Nat.mul_le_mul_right n (by omega)
 have hq : x * n / 2305843009213693951 ≤ n := Nat.div_le_of_le_mul hpn
 have a1 : decide ((n : Int) < 1) = false := decide_eq_false (by omega)
 have f : ∀ (h : Heap) (Q : Value → Heap → Prop), CALL cp 185 [.int .u64 x, .int .u64 n, .int .u64 2305843009213693951] h Q ↔ Q (.tuple #[.int .u64 ((x * n / 2305843009213693951 : Nat) : Int), .bool true]) h :=
  fun h => down_ok h x n 2305843009213693951 (by omega) (by omega) (by omega) (by omega)
 simp (disch := omega) only [c182, ↓R182, f, a1, ↓RnP, RnQ, Nat.reduceEqDiff, Nat.reduceAdd, Nat.reduceMul, Nat.reduceSub, Nat.reduceLT, Nat.reduceLeDiff, Nat.reduceBEq, Int.reduceLT, Int.reduceLE, reduceCtorEq, Int.reduceToNat, Int.reduceAdd, Int.reduceSub, Int.reduceMul]
end Go.Proofs.YtlakhgibjfmjjaaGreat.Can
namespace Go.Proofs.YtlakhgibjfmjjaaGreat.Can
open Go
attribute [local congr] RunR_congr RunC_congr afterR_congr guardR_congr condQ_congr CALL_congr finQ_congr op_congr opg_congr
def wordN (s : ByteArray) : Nat → Nat
 | 0 => 0
 | i + 1 => wordN s i * 256 + (s.data[i]?.getD 0).toNat
theorem wordN_lt (s : ByteArray) : ∀ i, wordN s i < 256 ^ i
 | 0 => by simp [wordN]
 | i + 1 => by
  have h1 := wordN_lt s i
  have h2 := UInt8.toNat_lt (s.data[i]?.getD 0)
  simp only [wordN, Nat.pow_succ]
  omega
theorem wordN_lt7 (s : ByteArray) {i : Nat} (h : i ≤ 7) : wordN s i < 72057594037927936 :=
 Nat.lt_of_lt_of_le (wordN_lt s i) (Nat.pow_le_pow_right (by decide) h)
theorem wordN_lt6 (s : ByteArray) {i : Nat} (h : i ≤ 6) : wordN s i < 281474976710656 :=
 Nat.lt_of_lt_of_le (wordN_lt s i) (Nat.pow_le_pow_right (by decide) h)
def blkS (s : ByteArray) (k : Nat) : ByteArray := s.extract (7 * k) (min (7 * k + 7) s.size)
def blk (s : ByteArray) (k : Nat) : Nat := wordN (blkS s k) (blkS s k).size
theorem blkS_size (s : ByteArray) (k : Nat) : (blkS s k).size ≤ 7 := by
 unfold blkS
 rw [ByteArray.size_extract]; omega
theorem blk_lt (s : ByteArray) (k : Nat) : blk s k < 72057594037927936 := wordN_lt7 _ (blkS_size s k)
def hashN (s : ByteArray) (X : Nat) : Nat → Nat
 | 0 => s.size + 1
 | k + 1 => (hashN s X k * X % 2305843009213693951 + blk s k) % 2305843009213693951
theorem hashN_lt (s : ByteArray) (hs : s.size ≤ 140737488355328) (X : Nat) : ∀ k, hashN s X k < 2305843009213693951
 | 0 => by simp only [hashN]; omega
 | k + 1 => Nat.mod_lt _ (by decide)
abbrev RowT := Int × Int × Int
abbrev RowE : Enc RowT := Enc.pair (Enc.int .u64) (Enc.pair (Enc.int .u64) (Enc.int .u64))
structure RowT.OK (r : RowT) : Prop where
 x : 0 ≤ r.1 ∧ r.1 ≤ 2305843009213693951
 a : 0 ≤ r.2.1 ∧ r.2.1 ≤ 2305843009213693951
 b : 0 ≤ r.2.2 ∧ r.2.2 ≤ 2305843009213693951
def hOf (r : RowT) (s : ByteArray) : Nat := (hashN s r.1.toNat ((s.size + 6) / 7) * r.2.1.toNat % 2305843009213693951 + r.2.2.toNat) % 2305843009213693951
theorem hOf_lt (r : RowT) (s : ByteArray) : hOf r s < 2305843009213693951 := Nat.mod_lt _ (by decide)
def bkt (r : RowT) (s : ByteArray) (n : Nat) : Nat := hOf r s * n / 2305843009213693951
theorem bkt_lt (r : RowT) (s : ByteArray) {n : Nat} (hn : 1 ≤ n) : bkt r s n < n := by
 unfold bkt
 rw [Nat.div_lt_iff_lt_mul (by decide), Nat.mul_comm n]
 exact Nat.mul_lt_mul_of_pos_right (hOf_lt r s) hn
theorem word_loop (h : Heap) (s : ByteArray) (n : Nat) (hn : s.size = n) (h7 : n ≤ 7) {Q : Post} (e : Env) (e0 : e 0 = .string s) (e3 : e 3 = .int .u64 ((0 : Nat) : Int)) (e6 : e 6 = .int .i64 n) (e7 : e 7 = .int .i64 ((0 : Nat) : Int))
  (hQ : ∀ e', e' 3 = .int .u64 (wordN s n : Nat) → Q (.exit 0) e' h) : RunC cp (.loop c188_l0) e h Q := by
 refine RunC_loop cp _ Q (fun d e' h' => h' = h ∧ ∃ i : Nat, i ≤ n ∧ d = n - i ∧ e' 0 = .string s ∧ e' 3 = .int .u64 (wordN s i : Nat) ∧ e' 6 = .int .i64 n ∧ e' 7 = .int .i64 i) ?_ n e h ⟨rfl, 0, Nat.zero_le _, rfl, e0, e3, e6, e7⟩
 clear e0 e3 e6 e7
 rintro d e' h' ⟨rfl, i, hi, rfl, e0, e3, e6, e7⟩
 by_cases c : i < n
 ·have b1 : decide ((i : Int) < (n : Int)) = true := decide_eq_true (by omega)
  have s8 := fun x : Int => shl_k .u64 x 8 (by decide)
  have p8 : (2 : Int) ^ 8 = 256 := by decide
  obtain ⟨b, hb⟩ : ∃ b, s.data[i]? = some b := ⟨_, Array.getElem?_eq_getElem (show i < s.data.size by rw [← hn] at c; exact c)⟩
  have hlt := wordN_lt6 s (show i ≤ 6 by omega)
  have hw : wordN s (i + 1) = wordN s i * 256 + b.toNat := by simp only [wordN, hb, Option.getD_some]
  have hb8 : b.toNat < 256 := UInt8.toNat_lt b
  have eor : IntKind.u64.wrap ((BitVec.ofInt IntKind.u64.bits ((wordN s i : Int) * 256) ||| BitVec.ofInt IntKind.u64.bits ((b.toNat : Nat) : Int)).toNat : Int) = ((wordN s (i + 1) : Nat) : Int) := by
   rw [or_u64 8 _ _ (by omega) (by rw [p8]; omega) (by omega) (by omega) (by rw [p8]; omega) (by omega), hw]; omega
  have nx : (i : Int) + 1 = ((i + 1 : Nat) : Int) := by omega
  simp (disch := omega) only [c188_l0, c188, ↓R188, e0, e3, e6, e7, b1, hb, s8, p8, eor, nx, ↓RnP, RnQ, Nat.reduceEqDiff, Nat.reduceAdd, Nat.reduceMul, Nat.reduceSub, Nat.reduceLT, Nat.reduceLeDiff, Nat.reduceBEq, Int.reduceLT, Int.reduceLE, reduceCtorEq, Int.reduceToNat, Int.reduceAdd, Int.reduceSub, Int.reduceMul]
  refine ⟨n - (i + 1), by omega, i + 1, by omega, rfl, ?_⟩
  repeat' first | assumption | rfl | apply And.intro
 ·have b1 : decide ((i : Int) < (n : Int)) = false := decide_eq_false (by omega)
  have : i = n := by omega
  subst this
  simp (disch := omega) only [c188_l0, c188, ↓R188, e0, e3, e6, e7, b1, ↓RnP, RnQ, Nat.reduceEqDiff, Nat.reduceAdd, Nat.reduceMul, Nat.reduceSub, Nat.reduceLT, Nat.reduceLeDiff, Nat.reduceBEq, Int.reduceLT, Int.reduceLE, reduceCtorEq, Int.reduceToNat, Int.reduceAdd, Int.reduceSub, Int.reduceMul]
  exact hQ _ e3
theorem word_ok (h : Heap) (s : ByteArray) (h7 : s.size ≤ 7) (Q : Value → Heap → Prop) : CALL cp 188 [.string s] h Q ↔ Q (.int .u64 (wordN s s.size : Nat)) h := by
 refine CALL_det ?_ Q
 rw [CALL_enter cp cp188]
 simp (disch := omega) only [c188, ↓R188, ↓RnP, RnQ, Nat.reduceEqDiff, Nat.reduceAdd, Nat.reduceMul, Nat.reduceSub, Nat.reduceLT, Nat.reduceLeDiff, Nat.reduceBEq, Int.reduceLT, Int.reduceLE, reduceCtorEq, Int.reduceToNat, Int.reduceAdd, Int.reduceSub, Int.reduceMul]
 refine word_loop h s s.size rfl h7 _ rfl rfl rfl rfl fun e' e3 => ?_
 simp (disch := omega) only [c188, ↓R188, e3, ↓RnP, RnQ, Nat.reduceEqDiff, Nat.reduceAdd, Nat.reduceMul, Nat.reduceSub, Nat.reduceLT, Nat.reduceLeDiff, Nat.reduceBEq, Int.reduceLT, Int.reduceLE, reduceCtorEq, Int.reduceToNat, Int.reduceAdd, Int.reduceSub, Int.reduceMul]
theorem hof_loop (h : Heap) (r : RowT) (hr : r.OK) (s : ByteArray) (hs : s.size ≤ 140737488355328) (b : Nat) (t : TypeId) (hob : h.obj b = .cells (RowE.enc r) t .fix) {Q : Post} (e : Env) (e1 : e 1 = .string s) (e2 : e 2 = .pointer (some ⟨b, 0, none⟩)) (e5 : e 5 = .int .u64 ((s.size + 1 : Nat) : Int)) (e6 : e 6 = .int .i64 ((0 : Nat) : Int))
  (hQ : ∀ e', e' 2 = .pointer (some ⟨b, 0, none⟩) → e' 5 = .int .u64 (hashN s r.1.toNat ((s.size + 6) / 7) : Nat) → Q (.exit 0) e' h) : RunC cp (.loop c183_l0) e h Q := by
 obtain ⟨N, hN⟩ : ∃ N, N = (s.size + 6) / 7 := ⟨_, rfl⟩
 refine RunC_loop cp _ Q (fun d e' h' => h' = h ∧ ∃ k : Nat, k ≤ N ∧ d = N - k ∧ e' 1 = .string s ∧ e' 2 = .pointer (some ⟨b, 0, none⟩) ∧ e' 5 = .int .u64 (hashN s r.1.toNat k : Nat) ∧ e' 6 = .int .i64 ((7 * k : Nat) : Int)) ?_ N e h ⟨rfl, 0, Nat.zero_le _, rfl, e1, e2, e5, e6⟩
 clear e1 e2 e5 e6
 rintro d e' h' ⟨rfl, k, hk, rfl, e1, e2, e5, e6⟩
 obtain ⟨X, A, B⟩ := r
 obtain ⟨hx, ha, hb⟩ := hr
 simp only at hx ha hb e5 hQ ⊢
 obtain ⟨X, rfl⟩ : ∃ x : Nat, X = x := ⟨X.toNat, by omega⟩
 simp only [Int.toNat_natCast] at e5 hQ ⊢
 have hob : h'.obj b = .cells [.int .u64 X, .int .u64 A, .int .u64 B] t .fix := hob
 by_cases c : 7 * k < s.size
 ·have b1 : decide (((7 * k : Nat) : Int) < ((s.size : Nat) : Int)) = true := decide_eq_true (by omega)
  have f1 := fun h => fmul_ok h (hashN s X k) X (by have := hashN_lt s hs X k; omega) (by omega)
  have hlt : hashN s X k * X % 2305843009213693951 < 2305843009213693951 := Nat.mod_lt _ (by decide)
  have f2 : ∀ (h : Heap) (Q : Value → Heap → Prop), CALL cp 188 [.string (blkS s k)] h Q ↔ Q (.int .u64 (blk s k : Nat)) h := fun h => word_ok h (blkS s k) (blkS_size s k)
  have f3 := fun h => fadd_ok h (hashN s X k * X % 2305843009213693951) (blk s k) (by have := blk_lt s k; omega)
  have nx : ((7 * k : Nat) : Int) + 7 = ((7 * (k + 1) : Nat) : Int) := by omega
  have mn : (if ((s.size : Nat) : Int) < ((7 * (k + 1) : Nat) : Int) then ((s.size : Nat) : Int) else ((7 * (k + 1) : Nat) : Int)) = ((min (7 * k + 7) s.size : Nat) : Int) := by split <;> omega
  have sl : ∀ h, cop (.sliceStr (.string s) (some (.int .i64 ((7 * k : Nat) : Int))) (some (.int .i64 ((min (7 * k + 7) s.size : Nat) : Int)))) h = some (.string (blkS s k), h) := fun h => by
   have k1 : min (7 * k + 7) s.size ≤ s.size := Nat.min_le_right _ _
   have k2 : 7 * k ≤ min (7 * k + 7) s.size := by omega
   simp (disch := omega) only [↓RnP, RnQ, Nat.reduceEqDiff, Nat.reduceAdd, Nat.reduceMul, Nat.reduceSub, Nat.reduceLT, Nat.reduceLeDiff, Nat.reduceBEq, Int.reduceLT, Int.reduceLE, reduceCtorEq, Int.reduceToNat, Int.reduceAdd, Int.reduceSub, Int.reduceMul]
   rfl
  have mm : ∀ h, cop (.minmax false [.int .i64 ((7 * (k + 1) : Nat) : Int), .int .i64 ((s.size : Nat) : Int)]) h = some (.int .i64 ((min (7 * k + 7) s.size : Nat) : Int), h) := fun h => by
   show (some (Value.int .i64 (if ((s.size : Nat) : Int) < ((7 * (k + 1) : Nat) : Int) then ((s.size : Nat) : Int) else ((7 * (k + 1) : Nat) : Int)))).map (fun v => (v, h)) = _
   rw [mn]; rfl
  simp (disch := omega) only [c183_l0, c183, ↓R183, e1, e2, e5, e6, b1, hob, f1, f2, f3, nx, ↓sl, ↓mm, ↓RnP, RnQ, Nat.reduceEqDiff, Nat.reduceAdd, Nat.reduceMul, Nat.reduceSub, Nat.reduceLT, Nat.reduceLeDiff, Nat.reduceBEq, Int.reduceLT, Int.reduceLE, reduceCtorEq, Int.reduceToNat, Int.reduceAdd, Int.reduceSub, Int.reduceMul]
  refine ⟨N - (k + 1), by omega, k + 1, by omega, rfl, ?_⟩
  repeat' first | assumption | rfl | apply And.intro
 ·have b1 : decide (((7 * k : Nat) : Int) < ((s.size : Nat) : Int)) = false := decide_eq_false (by omega)
  have : k = N := by omega
  subst this
  simp (disch := omega) only [c183_l0, c183, ↓R183, e1, e2, e5, e6, b1, ↓RnP, RnQ, Nat.reduceEqDiff, Nat.reduceAdd, Nat.reduceMul, Nat.reduceSub, Nat.reduceLT, Nat.reduceLeDiff, Nat.reduceBEq, Int.reduceLT, Int.reduceLE, reduceCtorEq, Int.reduceToNat, Int.reduceAdd, Int.reduceSub, Int.reduceMul]
  exact hQ _ e2 (by rw [← hN]; exact e5)
theorem hof_ok (h : Heap) (r : RowT) (hr : r.OK) (s : ByteArray) (hs : s.size ≤ 140737488355328) (Q : Value → Heap → Prop) :
  CALL cp 183 [.agg (RowE.enc r).toArray, .string s] h Q ↔ Q (.int .u64 (hOf r s : Nat)) (h.new (.cells (RowE.enc r) 182 .fix)) := by
 refine CALL_det ?_ Q
 rw [CALL_enter cp cp183]
 have nx : ((s.size : Nat) : Int) + 1 = ((s.size + 1 : Nat) : Int) := by omega
 obtain ⟨X, A, B⟩ := r
 have hr0 := hr
 obtain ⟨hx, ha, hb⟩ := hr
 simp only at hx ha hb
 obtain ⟨A, rfl⟩ : ∃ x : Nat, A = x := ⟨A.toNat, by omega⟩
 obtain ⟨B, rfl⟩ : ∃ x : Nat, B = x := ⟨B.toNat, by omega⟩
 have en : RowE.enc (X, (A : Int), (B : Int)) = [.int .u64 X, .int .u64 A, .int .u64 B] := rfl
 simp (disch := omega) only [c183, ↓R183, nx, en, ↓RnP, RnQ, Nat.reduceEqDiff, Nat.reduceAdd, Nat.reduceMul, Nat.reduceSub, Nat.reduceLT, Nat.reduceLeDiff, Nat.reduceBEq, Int.reduceLT, Int.reduceLE, reduceCtorEq, Int.reduceToNat, Int.reduceAdd, Int.reduceSub, Int.reduceMul]
 refine hof_loop (h.new (.cells (RowE.enc (X, (A : Int), (B : Int))) 182 .fix)) (X, A, B) hr0 s hs h.next 182 (obj_new_same _ _) _ rfl rfl rfl rfl fun e' e2 e5 => ?_
 simp only at e5
 obtain ⟨H, hH⟩ : ∃ H, H = hashN s X.toNat ((s.size + 6) / 7) := ⟨_, rfl⟩
 have hHl : H < 2305843009213693951 := by rw [hH]; exact hashN_lt s hs _ _
 rw [← hH] at e5
 have f1 := fun h => fmul_ok h H A (by omega) (by omega)
 have hlt : H * A % 2305843009213693951 < 2305843009213693951 := Nat.mod_lt _ (by decide)
 have f2 := fun h => fadd_ok h (H * A % 2305843009213693951) B (by omega)
 have ho : hOf (X, (A : Int), (B : Int)) s = (H * A % 2305843009213693951 + B) % 2305843009213693951 := by rw [hH]; rfl
 rw [ho]
 simp (disch := omega) only [c183, ↓R183, e2, e5, f1, f2, en, ↓RnP, RnQ, Nat.reduceEqDiff, Nat.reduceAdd, Nat.reduceMul, Nat.reduceSub, Nat.reduceLT, Nat.reduceLeDiff, Nat.reduceBEq, Int.reduceLT, Int.reduceLE, reduceCtorEq, Int.reduceToNat, Int.reduceAdd, Int.reduceSub, Int.reduceMul]
theorem bkt_ok (h : Heap) (r : RowT) (hr : r.OK) (s : ByteArray) (hs : s.size ≤ 140737488355328) (n : Nat) (hn : 1 ≤ n) (hm : n < 9223372036854775808) (Q : Value → Heap → Prop) :
  CALL cp 180 [.agg (RowE.enc r).toArray, .string s, .int .i64 n] h Q ↔ Q (.int .i64 (bkt r s n : Nat)) ((h.new (.cells (RowE.enc r) 182 .fix)).new (.cells (RowE.enc r) 182 .fix)) := by
 refine CALL_det ?_ Q
 rw [CALL_enter cp cp180]
 have f1 := fun h => hof_ok h r hr s hs
 have f2 : ∀ (h : Heap) (Q : Value → Heap → Prop), CALL cp 182 [.int .u64 (hOf r s : Nat), .int .i64 n] h Q ↔ Q (.int .i64 (bkt r s n : Nat)) h := fun h => place_ok h (hOf r s) n (hOf_lt r s) hn hm
 obtain ⟨X, A, B⟩ := r
 have en : RowE.enc (X, A, B) = [.int .u64 X, .int .u64 A, .int .u64 B] := rfl
 rw [en] at f1 ⊢
 simp (disch := omega) only [c180, ↓R180, f1, f2, ↓RnP, RnQ, Nat.reduceEqDiff, Nat.reduceAdd, Nat.reduceMul, Nat.reduceSub, Nat.reduceLT, Nat.reduceLeDiff, Nat.reduceBEq, Int.reduceLT, Int.reduceLE, reduceCtorEq, Int.reduceToNat, Int.reduceAdd, Int.reduceSub, Int.reduceMul]
end Go.Proofs.YtlakhgibjfmjjaaGreat.Can
namespace Go.Proofs.YtlakhgibjfmjjaaGreat.Can
open Go
attribute [local congr] RunR_congr RunC_congr afterR_congr guardR_congr condQ_congr CALL_congr finQ_congr op_congr opg_congr
def dr (l : List Int) (i : Nat) : Nat := (l[i]?.getD 0).toNat
def U64s (l : List Int) : Prop := ∀ x ∈ l, U64 x
theorem dr_lt {l : List Int} (hl : U64s l) (i : Nat) : dr l i < 18446744073709551616 := by
 unfold dr
 cases h : l[i]? with
 | none => simp
 | some x => have := hl x (List.mem_of_getElem? h); unfold U64 at this; rw [Option.getD_some]; omega
def rowN (l : List Int) (i : Nat) : RowT := (((dr l (3 * i) % 2305843009213693950 + 1 : Nat) : Int), ((dr l (3 * i + 1) % 2305843009213693950 + 1 : Nat) : Int), ((dr l (3 * i + 2) % 2305843009213693951 : Nat) : Int))
theorem rowN_ok (l : List Int) (i : Nat) : (rowN l i).OK := by
 have h1 := Nat.mod_lt (dr l (3 * i)) (show 0 < 2305843009213693950 by decide)
 have h2 := Nat.mod_lt (dr l (3 * i + 1)) (show 0 < 2305843009213693950 by decide)
 have h3 := Nat.mod_lt (dr l (3 * i + 2)) (show 0 < 2305843009213693951 by decide)
 constructor <;> simp only [rowN] <;> omega
def rowsN (l : List Int) (n : Nat) : List RowT := (List.range n).map (rowN l)
theorem rowsN_len (l : List Int) (n : Nat) : (rowsN l n).length = n := by simp [rowsN]
theorem rowsN_succ (l : List Int) (n : Nat) : rowsN l (n + 1) = rowsN l n ++ [rowN l n] := by simp [rowsN, List.range_succ]
theorem rowsN_ok (l : List Int) (n : Nat) : ∀ r ∈ rowsN l n, r.OK := fun r hr => by
 obtain ⟨i, _, rfl⟩ := List.mem_map.1 hr
 exact rowN_ok l i
theorem draw_ok (h : Heap) (l : List Int) (v : Value) (s : Lst h (Enc.int .u64) v l) (i : Nat) (Q : Value → Heap → Prop) : (CALL cp 91 [v, .int .i64 i] h Q ↔ Q (.int .u64 (l[i]?.getD 0)) h) := by
 refine CALL_det ?_ Q
 rw [CALL_enter cp cp91]
 obtain ⟨a, cap, rfl, hr⟩ := s
 by_cases c : i < l.length
 ·have a1 : decide ((i : Int) ≥ (l.length : Int)) = false := decide_eq_false (by omega)
  have hx : l[i]? = some l[i] := List.getElem?_eq_getElem c
  obtain ⟨b, o, rfl, hb, hg⟩ := hr i _ hx
  rw [hx]
  generalize l[i] = x at *
  have hg : (h.obj b).get (o + i) = some (.int .u64 x) := get_of_read (by simpa [Enc.int] using hg)
  simp (disch := omega) only [c91, ↓R91, a1, hg, ↓RnP, RnQ, Nat.reduceEqDiff, Nat.reduceAdd, Nat.reduceMul, Nat.reduceSub, Nat.reduceLT, Nat.reduceLeDiff, Nat.reduceBEq, Int.reduceLT, Int.reduceLE, reduceCtorEq, Int.reduceToNat, Int.reduceAdd, Int.reduceSub, Int.reduceMul]
 ·have a1 : decide ((i : Int) ≥ (l.length : Int)) = true := decide_eq_true (by omega)
  rw [List.getElem?_eq_none (by omega)]
  simp (disch := omega) only [c91, ↓R91, a1, ↓RnP, RnQ, Nat.reduceEqDiff, Nat.reduceAdd, Nat.reduceMul, Nat.reduceSub, Nat.reduceLT, Nat.reduceLeDiff, Nat.reduceBEq, Int.reduceLT, Int.reduceLE, reduceCtorEq, Int.reduceToNat, Int.reduceAdd, Int.reduceSub, Int.reduceMul]
theorem drawN_ok (h : Heap) (l : List Int) (hl : U64s l) (v : Value) (s : Lst h (Enc.int .u64) v l) (i : Nat) (Q : Value → Heap → Prop) : (CALL cp 91 [v, .int .i64 i] h Q ↔ Q (.int .u64 ((dr l i : Nat) : Int)) h) := by
 have e : ((dr l i : Nat) : Int) = l[i]?.getD 0 := by
  unfold dr
  cases h : l[i]? with
  | none => rfl
  | some x => have := hl x (List.mem_of_getElem? h); unfold U64 at this; rw [Option.getD_some]; omega
 rw [e]; exact draw_ok h l v s i Q
theorem whole_ok (h : Heap) (l : List Int) (hl : U64s l) (v : Value) (s : Lst h (Enc.int .u64) v l) (i : Nat) (Q : Value → Heap → Prop) : (CALL cp 89 [v, .int .i64 i] h Q ↔ Q (.int .u64 ((dr l i % 2305843009213693950 + 1 : Nat) : Int)) h) := by
 refine CALL_det ?_ Q
 rw [CALL_enter cp cp89]
 have f := fun Q => drawN_ok h l hl v s i Q
 have t1 : Int.tmod ((dr l i : Nat) : Int) 2305843009213693950 = ((dr l i % 2305843009213693950 : Nat) : Int) := by rw [tmod_nn _ _ (by omega)]; rfl
 have t2 : ((dr l i % 2305843009213693950 : Nat) : Int) + 1 = ((dr l i % 2305843009213693950 + 1 : Nat) : Int) := by omega
 simp (disch := omega) only [c89, ↓R89, f, t1, t2, ↓RnP, RnQ, Nat.reduceEqDiff, Nat.reduceAdd, Nat.reduceMul, Nat.reduceSub, Nat.reduceLT, Nat.reduceLeDiff, Nat.reduceBEq, Int.reduceLT, Int.reduceLE, reduceCtorEq, Int.reduceToNat, Int.reduceAdd, Int.reduceSub, Int.reduceMul]
theorem rows_ok (h : Heap) (l : List Int) (hl : U64s l) (v : Value) (s : Lst h (Enc.int .u64) v l) (n : Int) (hn : n ≤ 8) {Q : Value → Heap → Prop}
  (hQ : ∀ h' rv rb, Old h h' → Vec h' 182 RowE rv (rowsN l n.toNat) rb → h.next ≤ rb → Q rv h') : CALL cp 78 [v, .int .i64 n] h Q := by
 rw [CALL_enter cp cp78]
 obtain ⟨m, hm⟩ : ∃ m, m = n.toNat := ⟨_, rfl⟩
 have mm : ∀ h, cop (.minmax false [.int .i64 (m : Nat), .int .i64 9]) h = some (.int .i64 (m : Nat), h) := fun h => by
  show (some (Value.int .i64 (if (9 : Int) < ((m : Nat) : Int) then 9 else ((m : Nat) : Int)))).map (fun v => (v, h)) = _
  rw [if_neg (by omega)]; rfl
 have mx : ∀ h, cop (.minmax true [.int .i64 n, .int .i64 0]) h = some (.int .i64 (m : Nat), h) := fun h => by
  show (some (Value.int .i64 (if (0 : Int) > n then 0 else n))).map (fun v => (v, h)) = _
  rw [show (if (0 : Int) > n then 0 else n) = ((m : Nat) : Int) by split <;> omega]; rfl
 simp (disch := omega) only [c78, ↓R78, ↓mx, ↓mm, ↓RnP, RnQ, Nat.reduceEqDiff, Nat.reduceAdd, Nat.reduceMul, Nat.reduceSub, Nat.reduceLT, Nat.reduceLeDiff, Nat.reduceBEq, Int.reduceLT, Int.reduceLE, reduceCtorEq, Int.reduceToNat, Int.reduceAdd, Int.reduceSub, Int.reduceMul]
 refine RunC_loop cp c78_l0 _ (fun d e hh => ∃ (j b : Nat) (rv : Value), j + d = m ∧ Old h hh ∧ Vec hh 182 RowE rv (rowsN l j) b ∧ h.next ≤ b ∧ e 0 = v ∧ e 5 = rv ∧ e 9 = .int .i64 m ∧ e 10 = .int .i64 j) ?_ m _ _
  ⟨0, h.next, .slice none 0 0, by omega, Old.refl _, Vec.nil _ _ _ _, Nat.le_refl _, rfl, rfl, rfl, rfl⟩
 rintro d e hh ⟨j, b, rv, hj, o, V, hb, e0, e5, e9, e10⟩
 have s' := s.old o
 by_cases c : j < m
 ·have b1 : decide ((j : Int) < (m : Int)) = true := decide_eq_true (by omega)
  have k0 : 3 * (j : Int) = ((3 * j : Nat) : Int) := by omega
  have k1 : ((3 * j : Nat) : Int) + 1 = ((3 * j + 1 : Nat) : Int) := by omega
  have k2 : ((3 * j : Nat) : Int) + 2 = ((3 * j + 2 : Nat) : Int) := by omega
  have f0 := fun i Q => whole_ok hh l hl v s' i Q
  have f1 := fun i Q => drawN_ok hh l hl v s' i Q
  have f2 := fun h => fof_ok h (dr l (3 * j + 2)) (dr_lt hl _)
  have nx : (j : Int) + 1 = ((j + 1 : Nat) : Int) := by omega
  simp (disch := omega) only [c78_l0, c78, ↓R78, e0, e5, e9, e10, b1, k0, k1, k2, f0, f1, f2, reps, List.append_nil, ↓RnP, RnQ, Nat.reduceEqDiff, Nat.reduceAdd, Nat.reduceMul, Nat.reduceSub, Nat.reduceLT, Nat.reduceLeDiff, Nat.reduceBEq, Int.reduceLT, Int.reduceLE, reduceCtorEq, Int.reduceToNat, Int.reduceAdd, Int.reduceSub, Int.reduceMul]
  have V2 : Vec (hh.new (.cells (RowE.enc (rowN l j)) 182 .grow)) 182 RowE rv (rowsN l j) b := V.keep (Nat.le_succ _) fun hb => obj_new_ne _ _ (by omega)
  refine V2.app (m := [rowN l j]) rfl (src_enc RowE hh (rowN l j) 182 1) (by rw [List.length_singleton, rowsN_len]; omega) (by rw [List.length_singleton, rowsN_len]; omega) fun v' h' b' V3 hn' hb' ho' => ?_
  have hn'' : hh.next + 1 ≤ h'.next := hn'
  simp (disch := first | omega | (simp only [next_new, next_upd, ne_eq]; omega)) only [c78, ↓R78, e0, e5, e9, e10, nx, ↓RnP, RnQ, Nat.reduceEqDiff, Nat.reduceAdd, Nat.reduceMul, Nat.reduceSub, Nat.reduceLT, Nat.reduceLeDiff, Nat.reduceBEq, Int.reduceLT, Int.reduceLE, reduceCtorEq, Int.reduceToNat, Int.reduceAdd, Int.reduceSub, Int.reduceMul]
  have on := o.next
  refine ⟨d - 1, by omega, j + 1, b', v', by omega, ⟨by omega, fun x hx => ?_⟩, ?_, ?_, ?_⟩
  ·rw [ho' x (by show x < hh.next + 1; omega) (.inr (by omega)), obj_new_ne _ _ (by omega), o.obj x hx]
  ·rw [rowsN_succ]; exact V3
  ·rcases hb' with rfl | hb'
   ·exact hb
   ·exact Nat.le_trans (by omega : h.next ≤ hh.next + 1) hb'
  ·repeat' first | assumption | rfl | apply And.intro
 ·have b1 : decide ((j : Int) < (m : Int)) = false := decide_eq_false (by omega)
  obtain rfl : j = m := by omega
  simp (disch := omega) only [c78_l0, c78, ↓R78, e0, e5, e9, e10, b1, ↓RnP, RnQ, Nat.reduceEqDiff, Nat.reduceAdd, Nat.reduceMul, Nat.reduceSub, Nat.reduceLT, Nat.reduceLeDiff, Nat.reduceBEq, Int.reduceLT, Int.reduceLE, reduceCtorEq, Int.reduceToNat, Int.reduceAdd, Int.reduceSub, Int.reduceMul]
  exact hQ hh rv b o (by rw [← hm]; exact V) hb
end Go.Proofs.YtlakhgibjfmjjaaGreat.Can
namespace Go.Proofs.YtlakhgibjfmjjaaGreat.Can
open Go
attribute [local congr] RunR_congr RunC_congr afterR_congr guardR_congr condQ_congr CALL_congr finQ_congr op_congr opg_congr
theorem mm_min (x y : Int) (h : Heap) : cop (.minmax false [.int .i64 x, .int .i64 y]) h = some (.int .i64 (min x y), h) := by
 show (some (Value.int .i64 (if y < x then y else x))).map (fun v => (v, h)) = _
 rw [if_min]; rfl
theorem mm_max (x y : Int) (h : Heap) : cop (.minmax true [.int .i64 x, .int .i64 y]) h = some (.int .i64 (max x y), h) := by
 show (some (Value.int .i64 (if y > x then y else x))).map (fun v => (v, h)) = _
 rw [if_max]; rfl
theorem reps_int (n : Nat) (k : IntKind) : reps n [.int k 0] = ints k (List.replicate n 0) := by
 induction n with
 | zero => rfl
 | succ n ih => rw [List.replicate_succ]; show [Value.int k 0] ++ reps n [.int k 0] = _; rw [ih]; rfl
theorem setAt_one (c : List Value) (o : Nat) (v : Value) : setAt c o [v] = c.set o v := rfl
structure OldX (X : Nat) (h h' : Heap) : Prop where
 next : h.next ≤ h'.next
 obj : ∀ b, b < h.next → b ≠ X → h'.obj b = h.obj b
theorem Old.x {h h' : Heap} (o : Old h h') (X : Nat) : OldX X h h' := ⟨o.next, fun b hb _ => o.obj b hb⟩
theorem OldX.refl (X : Nat) (h : Heap) : OldX X h h := ⟨Nat.le_refl _, fun _ _ _ => rfl⟩
theorem OldX.trans {X : Nat} {a b c : Heap} (h : OldX X a b) (k : OldX X b c) : OldX X a c := ⟨Nat.le_trans h.next k.next, fun x hx hn => by rw [k.obj x (Nat.lt_of_lt_of_le hx h.next) hn, h.obj x hx hn]⟩
theorem OldX.fresh {X : Nat} {a b : Heap} (h : OldX X a b) (hX : a.next ≤ X) : Old a b := ⟨h.next, fun x hx => h.obj x hx (by omega)⟩
def ctr (c : List Int) (i : Nat) : Int := c[i]?.getD 0
def ix (rows : List RowT) (w : Nat) (key : ByteArray) (r : Nat) : Nat := r * w + bkt (rows[r]?.getD (0, 0, 0)) key w
def leastN (c : List Int) (f : Nat → Nat) : Nat → Int
 | 0 => ctr c (f 0)
 | k + 1 => min (leastN c f k) (ctr c (f (k + 1)))
def addN (c : List Int) (f : Nat → Nat) (want : Int) : Nat → List Int
 | 0 => c
 | k + 1 => (addN c f want k).set (f k) (max (ctr (addN c f want k) (f k)) want)
theorem addN_len (c : List Int) (f : Nat → Nat) (want : Int) : ∀ k, (addN c f want k).length = c.length
 | 0 => rfl
 | k + 1 => by simp only [addN, List.length_set, addN_len c f want k]
theorem mul_lt_succ {r R w b : Nat} (hr : r < R) (hb : b < w) : r * w + b < R * w := by
 have h1 : (r + 1) * w ≤ R * w := Nat.mul_le_mul_right w hr
 rw [Nat.add_mul, Nat.one_mul] at h1; omega
structure SlotAt (h : Heap) (p nb : Nat) (rv : Value) (rb : Nat) (rows : List RowT) (w : Nat) (c : List Int) : Prop where
 op : h.obj p = .cells [rv, .int .i64 w, .slice (some ⟨nb, 0, none⟩) (rows.length * w) (rows.length * w)] 211 .fix
 lp : p < h.next
 on : h.obj nb = .cells (ints .i64 c) 2 .grow
 ln : nb < h.next
 pn : p ≠ nb
 v : Vec h 182 RowE rv rows rb
 rn : rb ≠ nb
 hr : 1 ≤ rows.length ∧ rows.length ≤ 8
 hw : 1 ≤ w ∧ w ≤ 4096
 len : c.length = rows.length * w
 ok : ∀ r ∈ rows, r.OK
 c64 : ∀ x ∈ c, I64 x
section
variable {h h' : Heap} {p nb rb w : Nat} {rv : Value} {rows : List RowT} {c : List Int}
theorem SlotAt.oldx (S : SlotAt h p nb rv rb rows w c) {X : Nat} (o : OldX X h h') (hp : p ≠ X) (hn : nb ≠ X) (hb : rb ≠ X) : SlotAt h' p nb rv rb rows w c where
 op := (o.obj p S.lp hp).trans S.op
 lp := Nat.lt_of_lt_of_le S.lp o.next
 on := (o.obj nb S.ln hn).trans S.on
 ln := Nat.lt_of_lt_of_le S.ln o.next
 pn := S.pn
 v := S.v.keep o.next fun hl => o.obj rb hl hb
 rn := S.rn
 hr := S.hr
 hw := S.hw
 len := S.len
 ok := S.ok
 c64 := S.c64
theorem SlotAt.old (S : SlotAt h p nb rv rb rows w c) (o : Old h h') : SlotAt h' p nb rv rb rows w c where
 op := (o.obj p S.lp).trans S.op
 lp := Nat.lt_of_lt_of_le S.lp o.next
 on := (o.obj nb S.ln).trans S.on
 ln := Nat.lt_of_lt_of_le S.ln o.next
 pn := S.pn
 v := S.v.keep o.next fun hl => o.obj rb hl
 rn := S.rn
 hr := S.hr
 hw := S.hw
 len := S.len
 ok := S.ok
 c64 := S.c64
theorem SlotAt.put (S : SlotAt h p nb rv rb rows w c) {d : List Int} (hd : d.length = c.length) (d64 : ∀ x ∈ d, I64 x) : SlotAt (h.upd nb (.cells (ints .i64 d) 2 .grow)) p nb rv rb rows w d where
 op := (obj_upd_ne _ _ S.pn).trans S.op
 lp := S.lp
 on := obj_upd_same _ _ _
 ln := S.ln
 pn := S.pn
 v := S.v.keep (Nat.le_refl _) fun hl => obj_upd_ne _ _ S.rn
 rn := S.rn
 hr := S.hr
 hw := S.hw
 len := hd.trans S.len
 ok := S.ok
 c64 := d64
theorem SlotAt.ix_lt (S : SlotAt h p nb rv rb rows w c) (key : ByteArray) {r : Nat} (hr : r < rows.length) : ix rows w key r < rows.length * w := mul_lt_succ hr (bkt_lt _ key S.hw.1)
theorem SlotAt.rw_le (S : SlotAt h p nb rv rb rows w c) : rows.length * w ≤ 32768 := Nat.mul_le_mul S.hr.2 S.hw.2
theorem SlotAt.get (S : SlotAt h p nb rv rb rows w c) {i : Nat} (hi : i < rows.length * w) : c[i]? = some (ctr c i) ∧ I64 (ctr c i) := by
 have h1 : c[i]? = some (c[i]'(by rw [S.len]; exact hi)) := List.getElem?_eq_getElem _
 unfold ctr
 rw [h1]
 exact ⟨rfl, S.c64 _ (List.mem_of_getElem? h1)⟩
end
theorem set64 {c : List Int} {i : Nat} {x : Int} (h : ∀ y ∈ c, I64 y) (hx : I64 x) : ∀ y ∈ c.set i x, I64 y := fun y hy => by
 rcases List.mem_or_eq_of_mem_set hy with hy | rfl
 ·exact h y hy
 ·exact hx
theorem new_ok (h : Heap) (rv : Value) (rb : Nat) (rows : List RowT) (w : Nat) (V : Vec h 182 RowE rv rows rb) (ok : ∀ r ∈ rows, r.OK) (hr : 1 ≤ rows.length ∧ rows.length ≤ 8) (hw : 1 ≤ w ∧ w ≤ 4096) {Q : Value → Heap → Prop}
  (hQ : ∀ h' p nb, Old h h' → SlotAt h' p nb rv rb rows w (List.replicate (rows.length * w) 0) → h.next ≤ p → h.next ≤ nb → Q (.pointer (some ⟨p, 0, none⟩)) h') :
  CALL cp 94 [rv, .int .i64 w] h Q := by
 rw [CALL_enter cp cp94]
 obtain ⟨a, cap, e, hc⟩ := V.val
 have hmul : rows.length * w ≤ 32768 := Nat.mul_le_mul hr.2 hw.2
 have a1 : ((rows.length : Int) == 0) = false := beq_eq_false_iff_ne.2 (by omega)
 have a2 : decide ((w : Int) < 1) = false := decide_eq_false (by omega)
 have k1 : (rows.length : Int) * (w : Int) = ((rows.length * w : Nat) : Int) := by rw [Int.natCast_mul]
 have k2 : (((rows.length * w : Nat) : Int)).toNat = rows.length * w := Int.toNat_natCast _
 have z0 : ¬ ((rows.length * w : Nat) : Int) < 0 := by omega
 subst e
 simp (disch := omega) only [c94, ↓R94, a1, a2, k1, k2, reps_int, ↓RnP, RnQ, Nat.reduceEqDiff, Nat.reduceAdd, Nat.reduceMul, Nat.reduceSub, Nat.reduceLT, Nat.reduceLeDiff, Nat.reduceBEq, Int.reduceLT, Int.reduceLE, reduceCtorEq, Int.reduceToNat, Int.reduceAdd, Int.reduceSub, Int.reduceMul]
 refine hQ _ (h.next + 1) h.next (((Old.refl h).more _).more _) ⟨?_, ?_, ?_, ?_, ?_, ?_, ?_, hr, hw, by simp, ok, fun x hx => by rw [(List.mem_replicate.1 hx).2]; unfold I64; omega⟩ (by omega) (Nat.le_refl _)
 ·exact obj_new2_same _ _ _
 ·exact Nat.lt_succ_self _
 ·rw [obj_new_ne _ _ (by simp only [next_new]; omega)]; exact obj_new_same _ _
 ·simp only [next_new]; omega
 ·omega
 ·exact V.keep (by simp only [next_new]; omega) fun hl => by rw [obj_new_ne _ _ (by simp only [next_new]; omega), obj_new_ne _ _ (by omega)]
 ·rcases V.at (by omega) with ⟨_, _, _, hl, _⟩; omega
theorem at_ok {h : Heap} {p nb rb w : Nat} {rv : Value} {rows : List RowT} {c : List Int} (S : SlotAt h p nb rv rb rows w c) (key : ByteArray) (hs : key.size ≤ 140737488355328) (r : Nat) (hr : r < rows.length) {Q : Value → Heap → Prop}
  (hQ : ∀ h', Old h h' → Q (.pointer (some ⟨nb, ix rows w key r, none⟩)) h') : CALL cp 174 [.pointer (some ⟨p, 0, none⟩), .int .i64 r, .string key] h Q := by
 rw [CALL_enter cp cp174]
 have hx : rows[r]? = some rows[r] := List.getElem?_eq_getElem hr
 obtain ⟨x, hxx⟩ : ∃ x, x = rows[r] := ⟨_, rfl⟩
 rw [← hxx] at hx
 obtain ⟨cap, e, hrd⟩ := S.v.read hx
 have hrd : (h.obj rb).read (r * 3) 3 = some (RowE.enc x) := by rw [Nat.zero_add] at hrd; exact hrd
 have xok := S.ok x (List.mem_of_getElem? hx)
 have op := S.op
 have lp := S.lp
 have h8 := S.hr
 have hw := S.hw
 have hlt := S.ix_lt key hr
 have hle := S.rw_le
 rw [e] at op
 have f := fun h => bkt_ok h x xok key hs w hw.1 (by omega)
 have hix : ix rows w key r = r * w + bkt x key w := by unfold ix; rw [hx]; rfl
 have k1 : (r : Int) * (w : Int) = ((r * w : Nat) : Int) := by rw [Int.natCast_mul]
 have k2 : ((r * w : Nat) : Int) + (bkt x key w : Nat) = ((ix rows w key r : Nat) : Int) := by rw [hix]; omega
 have k3 : (((ix rows w key r : Nat) : Int)).toNat = ix rows w key r := Int.toNat_natCast _
 simp (disch := first | omega | (simp only [next_new, next_upd, ne_eq]; omega)) only [c174, ↓R174, op, hrd, f, k1, k2, k3, ↓RnP, RnQ, Nat.reduceEqDiff, Nat.reduceAdd, Nat.reduceMul, Nat.reduceSub, Nat.reduceLT, Nat.reduceLeDiff, Nat.reduceBEq, Int.reduceLT, Int.reduceLE, reduceCtorEq, Int.reduceToNat, Int.reduceAdd, Int.reduceSub, Int.reduceMul]
 exact hQ _ (((Old.refl h).more _).more _)
theorem least_ok {h : Heap} {p nb rb w : Nat} {rv : Value} {rows : List RowT} {c : List Int} (S : SlotAt h p nb rv rb rows w c) (key : ByteArray) (hs : key.size ≤ 140737488355328) {Q : Value → Heap → Prop}
  (hQ : ∀ h', Old h h' → Q (.int .i64 (leastN c (ix rows w key) (rows.length - 1))) h') : CALL cp 172 [.pointer (some ⟨p, 0, none⟩), .string key] h Q := by
 rw [CALL_enter cp cp172]
 have h8 := S.hr
 simp (disch := omega) only [c172, ↓R172, eqS, ↓RnP, RnQ, Nat.reduceEqDiff, Nat.reduceAdd, Nat.reduceMul, Nat.reduceSub, Nat.reduceLT, Nat.reduceLeDiff, Nat.reduceBEq, Int.reduceLT, Int.reduceLE, reduceCtorEq, Int.reduceToNat, Int.reduceAdd, Int.reduceSub, Int.reduceMul]
 refine at_ok S key hs 0 (by omega) fun h1 o1 => ?_
 have S1 := S.old o1
 obtain ⟨hg, _⟩ := S1.get (S1.ix_lt key (show 0 < rows.length by omega))
 have hg := ints_get .i64 _ hg
 have on := S1.on
 simp (disch := omega) only [c172, ↓R172, on, hg, ↓RnP, RnQ, Nat.reduceEqDiff, Nat.reduceAdd, Nat.reduceMul, Nat.reduceSub, Nat.reduceLT, Nat.reduceLeDiff, Nat.reduceBEq, Int.reduceLT, Int.reduceLE, reduceCtorEq, Int.reduceToNat, Int.reduceAdd, Int.reduceSub, Int.reduceMul]
 refine RunC_loop cp c172_l0 _ (fun d e hh => ∃ j : Nat, j + 1 + d = rows.length ∧ Old h hh ∧ e 0 = .pointer (some ⟨p, 0, none⟩) ∧ e 1 = .string key ∧ e 5 = .int .i64 (leastN c (ix rows w key) j) ∧ e 6 = .int .i64 ((j + 1 : Nat) : Int)) ?_ (rows.length - 1) _ _
  ⟨0, by omega, o1, rfl, rfl, rfl, rfl⟩
 rintro d e hh ⟨j, hj, o, e0, e1, e5, e6⟩
 have S2 := S.old o
 have op := S2.op
 obtain ⟨a, cap, er, hc⟩ := S2.v.val
 rw [er] at op
 by_cases cj : j + 1 < rows.length
 ·have b1 : decide (((j + 1 : Nat) : Int) < (rows.length : Int)) = true := decide_eq_true (by omega)
  have nx : ((j + 1 : Nat) : Int) + 1 = ((j + 1 + 1 : Nat) : Int) := by omega
  simp (disch := omega) only [c172_l0, c172, ↓R172, e0, e1, e5, e6, op, b1, ↓RnP, RnQ, Nat.reduceEqDiff, Nat.reduceAdd, Nat.reduceMul, Nat.reduceSub, Nat.reduceLT, Nat.reduceLeDiff, Nat.reduceBEq, Int.reduceLT, Int.reduceLE, reduceCtorEq, Int.reduceToNat, Int.reduceAdd, Int.reduceSub, Int.reduceMul]
  refine at_ok S2 key hs (j + 1) cj fun h' o' => ?_
  have S' := S2.old o'
  obtain ⟨hg, _⟩ := S'.get (S'.ix_lt key cj)
  have hg := ints_get .i64 _ hg
  have on := S'.on
  simp (disch := omega) only [c172, ↓R172, e0, e1, e5, e6, on, hg, ↓mm_min, nx, ↓RnP, RnQ, Nat.reduceEqDiff, Nat.reduceAdd, Nat.reduceMul, Nat.reduceSub, Nat.reduceLT, Nat.reduceLeDiff, Nat.reduceBEq, Int.reduceLT, Int.reduceLE, reduceCtorEq, Int.reduceToNat, Int.reduceAdd, Int.reduceSub, Int.reduceMul]
  refine ⟨d - 1, by omega, j + 1, by omega, o.trans o', ?_⟩
  repeat' first | assumption | rfl | apply And.intro
 ·have b1 : decide (((j + 1 : Nat) : Int) < (rows.length : Int)) = false := decide_eq_false (by omega)
  obtain rfl : j = rows.length - 1 := by omega
  simp (disch := omega) only [c172_l0, c172, ↓R172, e0, e1, e5, e6, op, b1, ↓RnP, RnQ, Nat.reduceEqDiff, Nat.reduceAdd, Nat.reduceMul, Nat.reduceSub, Nat.reduceLT, Nat.reduceLeDiff, Nat.reduceBEq, Int.reduceLT, Int.reduceLE, reduceCtorEq, Int.reduceToNat, Int.reduceAdd, Int.reduceSub, Int.reduceMul]
  exact hQ _ o
theorem clear_ok {h : Heap} {p nb rb w : Nat} {rv : Value} {rows : List RowT} {c : List Int} (S : SlotAt h p nb rv rb rows w c) {Q : Value → Heap → Prop}
  (hQ : ∀ h', OldX nb h h' → SlotAt h' p nb rv rb rows w (List.replicate (rows.length * w) 0) → Q (.tuple #[]) h') : CALL cp 159 [.pointer (some ⟨p, 0, none⟩)] h Q := by
 rw [CALL_enter cp cp159]
 have op := S.op
 have on := S.on
 have len := S.len
 have hw0 : (ints .i64 (List.replicate (rows.length * w) 0)).length ≤ (ints .i64 c).length := by simp [ints, len]
 have hset : setAt (ints .i64 c) 0 (ints .i64 (List.replicate (rows.length * w) 0)) = ints .i64 (List.replicate (rows.length * w) 0) := by
  have := setAt_over [] (ints .i64 (List.replicate (rows.length * w) 0)) (ints .i64 c) hw0
  rw [List.nil_append, List.nil_append, List.length_nil, List.drop_eq_nil_of_le (by simp [ints, len]), List.append_nil] at this
  exact this
 simp (disch := omega) only [c159, ↓R159, op, on, eqS, reps_int, hset, List.length_replicate, len, Nat.le_refl, ↓RnP, RnQ, Nat.reduceEqDiff, Nat.reduceAdd, Nat.reduceMul, Nat.reduceSub, Nat.reduceLT, Nat.reduceLeDiff, Nat.reduceBEq, Int.reduceLT, Int.reduceLE, reduceCtorEq, Int.reduceToNat, Int.reduceAdd, Int.reduceSub, Int.reduceMul]
 exact hQ _ ⟨Nat.le_refl _, fun b _ hb => obj_upd_ne _ _ hb⟩ (S.put (by simp [len]) fun x hx => by rw [(List.mem_replicate.1 hx).2]; unfold I64; omega)
def addC (c : List Int) (f : Nat → Nat) (R : Nat) (cost : Int) : List Int := if cost < 1 then c else addN c f (near (leastN c f (R - 1) + cost)) R
theorem leastN_in {h : Heap} {p nb rb w : Nat} {rv : Value} {rows : List RowT} {c : List Int} (S : SlotAt h p nb rv rb rows w c) (key : ByteArray) : ∀ k, k < rows.length → I64 (leastN c (ix rows w key) k)
 | 0, hk => (S.get (S.ix_lt key hk)).2
 | k + 1, hk => by
  have h1 := leastN_in S key k (by omega)
  have h2 := (S.get (S.ix_lt key hk)).2
  simp only [leastN]; unfold I64 at *; omega
theorem add_ok' {h : Heap} {p nb rb w : Nat} {rv : Value} {rows : List RowT} {c : List Int} (S : SlotAt h p nb rv rb rows w c) (key : ByteArray) (hs : key.size ≤ 140737488355328) (cost : Int) (hc : I64 cost) {Q : Value → Heap → Prop}
  (hQ : ∀ h', OldX nb h h' → SlotAt h' p nb rv rb rows w (addC c (ix rows w key) rows.length cost) → Q (.tuple #[]) h') : CALL cp 160 [.pointer (some ⟨p, 0, none⟩), .string key, .int .i64 cost] h Q := by
 rw [CALL_enter cp cp160]
 have h8 := S.hr
 unfold addC at hQ
 by_cases c1 : cost < 1
 ·have a1 := decide_eq_true c1
  rw [if_pos c1] at hQ
  simp (disch := omega) only [c160, ↓R160, eqS, a1, ↓RnP, RnQ, Nat.reduceEqDiff, Nat.reduceAdd, Nat.reduceMul, Nat.reduceSub, Nat.reduceLT, Nat.reduceLeDiff, Nat.reduceBEq, Int.reduceLT, Int.reduceLE, reduceCtorEq, Int.reduceToNat, Int.reduceAdd, Int.reduceSub, Int.reduceMul]
  exact hQ _ (OldX.refl _ _) S
 have a1 := decide_eq_false c1
 rw [if_neg c1] at hQ
 simp (disch := omega) only [c160, ↓R160, eqS, a1, ↓RnP, RnQ, Nat.reduceEqDiff, Nat.reduceAdd, Nat.reduceMul, Nat.reduceSub, Nat.reduceLT, Nat.reduceLeDiff, Nat.reduceBEq, Int.reduceLT, Int.reduceLE, reduceCtorEq, Int.reduceToNat, Int.reduceAdd, Int.reduceSub, Int.reduceMul]
 refine least_ok S key hs fun h1 o1 => ?_
 have S1 := S.old o1
 have lin := leastN_in S key (rows.length - 1) (by omega)
 obtain ⟨want, hwant⟩ : ∃ x, x = near (leastN c (ix rows w key) (rows.length - 1) + cost) := ⟨_, rfl⟩
 have w64 : I64 want := by rw [hwant]; exact near_in _
 have fs := fun h => sum_ok h _ cost lin hc
 have op := S1.op
 obtain ⟨a, cap, er, hcap⟩ := S1.v.val
 rw [er] at op
 rw [← hwant] at hQ
 simp (disch := omega) only [c160, ↓R160, fs, ← hwant, op, ↓RnP, RnQ, Nat.reduceEqDiff, Nat.reduceAdd, Nat.reduceMul, Nat.reduceSub, Nat.reduceLT, Nat.reduceLeDiff, Nat.reduceBEq, Int.reduceLT, Int.reduceLE, reduceCtorEq, Int.reduceToNat, Int.reduceAdd, Int.reduceSub, Int.reduceMul]
 refine RunC_loop cp c160_l0 _ (fun d e hh => ∃ j : Nat, j + d = rows.length ∧ OldX nb h hh ∧ SlotAt hh p nb rv rb rows w (addN c (ix rows w key) want j) ∧ e 0 = .pointer (some ⟨p, 0, none⟩) ∧ e 1 = .string key ∧ e 6 = .int .i64 want ∧ e 24 = .int .i64 rows.length ∧ e 25 = .int .i64 j) ?_ rows.length _ _
  ⟨0, by omega, o1.x nb, S1, rfl, rfl, rfl, rfl, rfl⟩
 rintro d e hh ⟨j, hj, o, S2, e0, e1, e6, e24, e25⟩
 by_cases cj : j < rows.length
 ·have b1 : decide ((j : Int) < (rows.length : Int)) = true := decide_eq_true (by omega)
  have nx : (j : Int) + 1 = ((j + 1 : Nat) : Int) := by omega
  simp (disch := omega) only [c160_l0, c160, ↓R160, e0, e1, e6, e24, e25, b1, ↓RnP, RnQ, Nat.reduceEqDiff, Nat.reduceAdd, Nat.reduceMul, Nat.reduceSub, Nat.reduceLT, Nat.reduceLeDiff, Nat.reduceBEq, Int.reduceLT, Int.reduceLE, reduceCtorEq, Int.reduceToNat, Int.reduceAdd, Int.reduceSub, Int.reduceMul]
  refine at_ok S2 key hs j cj fun h' o' => ?_
  have S' := S2.old o'
  have hi := S'.ix_lt key cj
  obtain ⟨hg, g64⟩ := S'.get hi
  have hg := ints_get .i64 _ hg
  have on := S'.on
  have len := S'.len
  have m64 : I64 (max (ctr (addN c (ix rows w key) want j) (ix rows w key j)) want) := by unfold I64 at *; omega
  have S3 := S'.put (d := addN c (ix rows w key) want (j + 1)) (by simp only [addN, List.length_set]) (by simp only [addN]; exact set64 S'.c64 m64)
  simp only [addN] at S3
  simp (disch := omega) only [c160, ↓R160, e0, e1, e6, e24, e25, on, hg, ↓mm_max, nx, setAt_one, ints_set, ints_len, len, ↓RnP, RnQ, Nat.reduceEqDiff, Nat.reduceAdd, Nat.reduceMul, Nat.reduceSub, Nat.reduceLT, Nat.reduceLeDiff, Nat.reduceBEq, Int.reduceLT, Int.reduceLE, reduceCtorEq, Int.reduceToNat, Int.reduceAdd, Int.reduceSub, Int.reduceMul]
  refine ⟨d - 1, by omega, j + 1, by omega, (o.trans (o'.x nb)).trans ⟨Nat.le_refl _, fun b _ hb => obj_upd_ne _ _ hb⟩, S3, ?_⟩
  repeat' first | assumption | rfl | apply And.intro
 ·have b1 : decide ((j : Int) < (rows.length : Int)) = false := decide_eq_false (by omega)
  obtain rfl : j = rows.length := by omega
  simp (disch := omega) only [c160_l0, c160, ↓R160, e0, e1, e6, e24, e25, b1, ↓RnP, RnQ, Nat.reduceEqDiff, Nat.reduceAdd, Nat.reduceMul, Nat.reduceSub, Nat.reduceLT, Nat.reduceLeDiff, Nat.reduceBEq, Int.reduceLT, Int.reduceLE, reduceCtorEq, Int.reduceToNat, Int.reduceAdd, Int.reduceSub, Int.reduceMul]
  exact hQ _ o S2
theorem slotBytes_ok (h : Heap) (r w : Nat) (hr : r ≤ 8) (hw : w ≤ 4096) (Q : Value → Heap → Prop) : CALL cp 98 [.int .i64 r, .int .i64 w] h Q ↔ Q (.int .i64 ((8 * r * w : Nat) : Int)) h := by
 refine CALL_det ?_ Q
 rw [CALL_enter cp cp98]
 have hm : r * w ≤ 8 * 4096 := Nat.mul_le_mul hr hw
 have k1 : 8 * (r : Int) = ((8 * r : Nat) : Int) := by omega
 have k2 : ((8 * r : Nat) : Int) * (w : Int) = ((8 * r * w : Nat) : Int) := by rw [← Int.natCast_mul]
 have k3 : 8 * r * w ≤ 262144 := by rw [Nat.mul_assoc]; omega
 simp (disch := omega) only [c98, ↓R98, k1, k2, ↓RnP, RnQ, Nat.reduceEqDiff, Nat.reduceAdd, Nat.reduceMul, Nat.reduceSub, Nat.reduceLT, Nat.reduceLeDiff, Nat.reduceBEq, Int.reduceLT, Int.reduceLE, reduceCtorEq, Int.reduceToNat, Int.reduceAdd, Int.reduceSub, Int.reduceMul]
end Go.Proofs.YtlakhgibjfmjjaaGreat.Can
namespace Go.Proofs.YtlakhgibjfmjjaaGreat.Can
open Go
attribute [local congr] RunR_congr RunC_congr afterR_congr guardR_congr condQ_congr CALL_congr finQ_congr op_congr opg_congr
theorem ctr_set (c : List Int) (i j : Nat) (x : Int) : ctr (c.set i x) j = if i = j ∧ i < c.length then x else ctr c j := by
 unfold ctr
 rw [List.getElem?_set]
 by_cases h : i = j
 ·subst h
  by_cases h2 : i < c.length
  ·rw [if_pos rfl, if_pos h2, if_pos ⟨rfl, h2⟩]; rfl
  ·rw [if_pos rfl, if_neg h2, if_neg (fun h => h2 h.2), List.getElem?_eq_none (by omega)]
 ·rw [if_neg h, if_neg (fun k => h k.1)]
theorem addN_up (c : List Int) (f : Nat → Nat) (want : Int) : ∀ k j, ctr c j ≤ ctr (addN c f want k) j
 | 0, j => Int.le_refl _
 | k + 1, j => by
  have ih := addN_up c f want k j
  simp only [addN]
  rw [ctr_set]
  split
  ·rename_i h; rw [h.1]; omega
  ·exact ih
theorem addN_top (c : List Int) (f : Nat → Nat) (want : Int) : ∀ k j, ctr (addN c f want k) j ≤ max (ctr c j) want
 | 0, j => by simp only [addN]; omega
 | k + 1, j => by
  have ih := addN_top c f want k j
  simp only [addN]
  rw [ctr_set]
  split
  ·rename_i h; rw [h.1]; omega
  ·exact ih
theorem addN_at (c : List Int) (f : Nat → Nat) (want : Int) : ∀ k r, r < k → f r < c.length → want ≤ ctr (addN c f want k) (f r)
 | 0, r, h, _ => by omega
 | k + 1, r, h, hl => by
  simp only [addN]
  rw [ctr_set, addN_len]
  by_cases e : r = k
  ·subst e; rw [if_pos ⟨rfl, hl⟩]; omega
  ·have ih := addN_at c f want k r (by omega) hl
   split
   ·omega
   ·exact ih
theorem addN_key (c : List Int) (f : Nat → Nat) (want : Int) {k r : Nat} (h : r < k) (hl : f r < c.length) : ctr (addN c f want k) (f r) = max (ctr c (f r)) want := by
 have h1 := addN_up c f want k (f r)
 have h2 := addN_top c f want k (f r)
 have h3 := addN_at c f want k r h hl
 omega
theorem leastN_le (c : List Int) (f : Nat → Nat) : ∀ k r, r ≤ k → leastN c f k ≤ ctr c (f r)
 | 0, r, h => by obtain rfl : r = 0 := by omega
                 exact Int.le_refl _
 | k + 1, r, h => by
  simp only [leastN]
  by_cases e : r = k + 1
  ·subst e; omega
  ·have := leastN_le c f k r (by omega); omega
theorem leastN_is (c : List Int) (f : Nat → Nat) : ∀ k, ∃ r, r ≤ k ∧ leastN c f k = ctr c (f r)
 | 0 => ⟨0, Nat.le_refl _, rfl⟩
 | k + 1 => by
  obtain ⟨r, h1, h2⟩ := leastN_is c f k
  simp only [leastN]
  by_cases e : leastN c f k ≤ ctr c (f (k + 1))
  ·exact ⟨r, by omega, by omega⟩
  ·exact ⟨k + 1, Nat.le_refl _, by omega⟩
theorem leastN_mono {c d : List Int} (h : ∀ j, ctr c j ≤ ctr d j) (f : Nat → Nat) : ∀ k, leastN c f k ≤ leastN d f k
 | 0 => h _
 | k + 1 => by have h1 := leastN_mono h f k; have h2 := h (f (k + 1)); simp only [leastN]; omega
theorem addC_up (c : List Int) (f : Nat → Nat) (R : Nat) (cost : Int) (j : Nat) : ctr c j ≤ ctr (addC c f R cost) j := by
 unfold addC
 split
 ·exact Int.le_refl _
 ·exact addN_up _ _ _ _ _
def Uni (c : List Int) (f : Nat → Nat) (R : Nat) (s : Int) : Prop := ∀ r, r < R → ctr c (f r) = s
theorem Uni.least {c : List Int} {f : Nat → Nat} {R : Nat} {s : Int} (u : Uni c f R s) (hR : 1 ≤ R) : leastN c f (R - 1) = s := by
 obtain ⟨r, h1, h2⟩ := leastN_is c f (R - 1)
 rw [h2]; exact u r (by omega)
theorem Uni.add {c : List Int} {f : Nat → Nat} {R : Nat} {s : Int} (u : Uni c f R s) (hR : 1 ≤ R) (hs : 0 ≤ s ∧ s ≤ 9223372036854775807) (hf : ∀ r, r < R → f r < c.length) (cost : Int) : Uni (addC c f R cost) f R (if cost < 1 then s else near (s + cost)) := fun r hr => by
 unfold addC
 by_cases h : cost < 1
 ·rw [if_pos h, if_pos h]; exact u r hr
 ·rw [if_neg h, if_neg h, addN_key _ _ _ hr (hf r hr), u.least hR, u r hr]
  unfold near
  split
  ·omega
  ·split <;> omega
theorem uni_zero (n : Nat) (f : Nat → Nat) (R : Nat) : Uni (List.replicate n 0) f R 0 := fun r _ => by
 unfold ctr
 rw [List.getElem?_replicate]
 split <;> rfl
theorem Lst.nil {α : Type} (h : Heap) (E : Enc α) : Lst h E (.slice none 0 0) [] := ⟨none, 0, rfl, fun i x hx => by simp at hx⟩
theorem SlotAt.f_lt {h : Heap} {p nb rb w : Nat} {rv : Value} {rows : List RowT} {c : List Int} (S : SlotAt h p nb rv rb rows w c) (key : ByteArray) : ∀ r, r < rows.length → ix rows w key r < c.length := fun r hr => by
 rw [S.len]; exact S.ix_lt key hr
abbrev CallT := ByteArray × Int
abbrev CallE : Enc CallT := Enc.pair Enc.str (Enc.int .i64)
def Few (l : List CallT) : Prop := l.length ≤ 100 ∧ ∀ x ∈ l, x.1.size ≤ 100
end Go.Proofs.YtlakhgibjfmjjaaGreat.Can
namespace Go.Proofs.YtlakhgibjfmjjaaGreat.Can
open Go
attribute [local congr] RunR_congr RunC_congr afterR_congr guardR_congr condQ_congr CALL_congr finQ_congr op_congr opg_congr
theorem least_nil (h : Heap) (key : ByteArray) (Q : Value → Heap → Prop) : CALL cp 172 [.pointer none, .string key] h Q ↔ Q (.int .i64 0) h := by
 refine CALL_det ?_ Q
 rw [CALL_enter cp cp172]
 simp (disch := omega) only [c172, ↓R172, eqS, ↓RnP, RnQ, Nat.reduceEqDiff, Nat.reduceAdd, Nat.reduceMul, Nat.reduceSub, Nat.reduceLT, Nat.reduceLeDiff, Nat.reduceBEq, Int.reduceLT, Int.reduceLE, reduceCtorEq, Int.reduceToNat, Int.reduceAdd, Int.reduceSub, Int.reduceMul]
def ceilN (n c : Nat) : Nat := if n % c = 0 then n / c else n / c + 1
theorem up_ok (h : Heap) (a b c : Nat) (ha : a < 18446744073709551616) (hb : b < 18446744073709551616) (hc : c < 18446744073709551616) (hf : a * b / 18446744073709551616 < c) (hq : a * b / c < 18446744073709551615) (Q : Value → Heap → Prop) :
  CALL cp 179 [.int .u64 a, .int .u64 b, .int .u64 c] h Q ↔ Q (.tuple #[.int .u64 (ceilN (a * b) c : Nat), .bool true]) h := by
 refine CALL_det ?_ Q
 rw [CALL_enter cp cp179]
 have f := fun h => divide_ok h a b c ha hb hc hf
 obtain ⟨n, hn⟩ : ∃ n, n = a * b := ⟨_, rfl⟩
 rw [← hn] at f hq ⊢
 have a2 : (((n / c : Nat) : Int) == 18446744073709551615) = false := beq_eq_false_iff_ne.2 (by omega)
 by_cases h0 : n % c = 0
 ·have a1 : decide (((n % c : Nat) : Int) > 0) = false := decide_eq_false (by omega)
  have e : ceilN n c = n / c := by unfold ceilN; rw [if_pos h0]
  rw [e]
  simp (disch := omega) only [c179, ↓R179, f, a1, a2, ↓RnP, RnQ, Nat.reduceEqDiff, Nat.reduceAdd, Nat.reduceMul, Nat.reduceSub, Nat.reduceLT, Nat.reduceLeDiff, Nat.reduceBEq, Int.reduceLT, Int.reduceLE, reduceCtorEq, Int.reduceToNat, Int.reduceAdd, Int.reduceSub, Int.reduceMul]
 ·have a1 : decide (((n % c : Nat) : Int) > 0) = true := decide_eq_true (by omega)
  have e : ((ceilN n c : Nat) : Int) = ((n / c : Nat) : Int) + 1 := by unfold ceilN; rw [if_neg h0]; omega
  rw [e]
  simp (disch := omega) only [c179, ↓R179, f, a1, a2, ↓RnP, RnQ, Nat.reduceEqDiff, Nat.reduceAdd, Nat.reduceMul, Nat.reduceSub, Nat.reduceLT, Nat.reduceLeDiff, Nat.reduceBEq, Int.reduceLT, Int.reduceLE, reduceCtorEq, Int.reduceToNat, Int.reduceAdd, Int.reduceSub, Int.reduceMul]
structure RP where
 x : Nat
 sb : Nat
 tb : Nat
 ps : Nat → Nat
 nbs : Nat → Nat
 rv : Value
 rb : Nat
 rows : List RowT
 N : Nat
 w : Nat
 W : Int
 L : Int
 part : Bool
abbrev ringC (r : RP) (now : Int) : List Value := [.slice (some ⟨r.sb, 0, none⟩) r.N r.N, .slice (some ⟨r.tb, 0, none⟩) r.N r.N, .int .i64 r.W, .int .i64 r.rows.length, .int .i64 r.L, .bool r.part, .int .i64 now]
structure RingAt (h : Heap) (r : RP) (now : Int) (st : List Int) (cs : Nat → List Int) : Prop where
 ox : h.obj r.x = .cells (ringC r now) 201 .fix
 lx : r.x < h.next
 os : h.obj r.sb = .cells ((List.range r.N).map fun i => Value.pointer (some ⟨r.ps i, 0, none⟩)) 202 .grow
 ls : r.sb < h.next
 ot : h.obj r.tb = .cells (ints .i64 st) 2 .grow
 lt : r.tb < h.next
 len : st.length = r.N
 s64 : ∀ s ∈ st, I64 s
 hN : 2 ≤ r.N ∧ r.N ≤ 65
 hW : 1 ≤ r.W ∧ r.W ≤ 1099511627776
 hL : I64 r.L
 sl : ∀ i, i < r.N → SlotAt h (r.ps i) (r.nbs i) r.rv r.rb r.rows r.w (cs i)
 nn : ∀ i j, i < r.N → j < r.N → i ≠ j → r.nbs i ≠ r.nbs j
 pn : ∀ i j, i < r.N → j < r.N → r.ps i ≠ r.nbs j
 xn : ∀ i, i < r.N → r.x ≠ r.nbs i ∧ r.sb ≠ r.nbs i ∧ r.tb ≠ r.nbs i
 px : ∀ i, i < r.N → r.ps i ≠ r.x ∧ r.ps i ≠ r.tb
 xx : r.x ≠ r.sb ∧ r.x ≠ r.tb ∧ r.sb ≠ r.tb
 rx : r.rb ≠ r.x ∧ r.rb ≠ r.tb
section
variable {h h' : Heap} {r : RP} {now : Int} {st : List Int} {cs : Nat → List Int}
theorem RingAt.old (R : RingAt h r now st cs) (o : Old h h') : RingAt h' r now st cs where
 ox := (o.obj _ R.lx).trans R.ox
 lx := Nat.lt_of_lt_of_le R.lx o.next
 os := (o.obj _ R.ls).trans R.os
 ls := Nat.lt_of_lt_of_le R.ls o.next
 ot := (o.obj _ R.lt).trans R.ot
 lt := Nat.lt_of_lt_of_le R.lt o.next
 len := R.len
 s64 := R.s64
 hN := R.hN
 hW := R.hW
 hL := R.hL
 sl := fun i hi => (R.sl i hi).old o
 nn := R.nn
 pn := R.pn
 xn := R.xn
 px := R.px
 xx := R.xx
 rx := R.rx
theorem number_ok (R : RingAt h r now st cs) (t : Int) (ht : 0 ≤ t ∧ t ≤ 9223372036854775807) (Q : Value → Heap → Prop) : CALL cp 158 [.pointer (some ⟨r.x, 0, none⟩), .int .i64 t] h Q ↔ Q (.int .i64 (t / r.W)) h := by
 refine CALL_det ?_ Q
 rw [CALL_enter cp cp158]
 have ox := R.ox
 have hW := R.hW
 have n0 : (r.W = 0) = False := by simp; omega
 have t1 : Int.tdiv t r.W = t / r.W := tdiv_nn t r.W ht.1
 have q0 : 0 ≤ t / r.W := Int.ediv_nonneg ht.1 (by omega)
 have q1 : t / r.W ≤ t := Int.ediv_le_self r.W ht.1
 simp (disch := omega) only [c158, ↓R158, ox, eqS, n0, t1, ↓RnP, RnQ, Nat.reduceEqDiff, Nat.reduceAdd, Nat.reduceMul, Nat.reduceSub, Nat.reduceLT, Nat.reduceLeDiff, Nat.reduceBEq, Int.reduceLT, Int.reduceLE, reduceCtorEq, Int.reduceToNat, Int.reduceAdd, Int.reduceSub, Int.reduceMul]
def pl (r : RP) (n : Int) : Nat := (n % r.N).toNat
def alive (r : RP) (st : List Int) (n : Int) : Prop := 0 ≤ n ∧ ctr st (pl r n) = n + 1
instance (r : RP) (st : List Int) (n : Int) : Decidable (alive r st n) := by unfold alive; infer_instance
theorem pl_lt (R : RingAt h r now st cs) (n : Int) : pl r n < r.N := by
 have := R.hN
 have h1 := Int.emod_lt_of_pos n (show (0 : Int) < r.N by omega)
 have h2 := Int.emod_nonneg n (show (r.N : Int) ≠ 0 by omega)
 unfold pl; omega
theorem pl_int (R : RingAt h r now st cs) (n : Int) : n % (r.N : Int) = ((pl r n : Nat) : Int) := by
 have := R.hN
 have h2 := Int.emod_nonneg n (show (r.N : Int) ≠ 0 by omega)
 unfold pl; omega
theorem RingAt.stamp (R : RingAt h r now st cs) {i : Nat} (hi : i < r.N) : st[i]? = some (ctr st i) ∧ I64 (ctr st i) := by
 have h1 : st[i]? = some (st[i]'(by rw [R.len]; exact hi)) := List.getElem?_eq_getElem _
 unfold ctr
 rw [h1]
 exact ⟨rfl, R.s64 _ (List.mem_of_getElem? h1)⟩
theorem RingAt.ptr (R : RingAt h r now st cs) {i : Nat} (hi : i < r.N) : ((List.range r.N).map fun i => Value.pointer (some ⟨r.ps i, 0, none⟩))[i]? = some (.pointer (some ⟨r.ps i, 0, none⟩)) := by
 rw [List.getElem?_map, List.getElem?_range hi]; rfl
theorem of_ok (R : RingAt h r now st cs) (n : Int) (hn : -1000 ≤ n ∧ n ≤ 9223372036854774000) (Q : Value → Heap → Prop) :
  CALL cp 171 [.pointer (some ⟨r.x, 0, none⟩), .int .i64 n] h Q ↔ Q (if alive r st n then .pointer (some ⟨r.ps (pl r n), 0, none⟩) else .pointer none) h := by
 refine CALL_det ?_ Q
 rw [CALL_enter cp cp171]
 have ox := R.ox
 have os := R.os
 have ot := R.ot
 have hN := R.hN
 by_cases c : n < 0
 ·have a1 := decide_eq_true c
  rw [if_neg (fun h => by have := h.1; omega)]
  simp (disch := omega) only [c171, ↓R171, a1, ↓RnP, RnQ, Nat.reduceEqDiff, Nat.reduceAdd, Nat.reduceMul, Nat.reduceSub, Nat.reduceLT, Nat.reduceLeDiff, Nat.reduceBEq, Int.reduceLT, Int.reduceLE, reduceCtorEq, Int.reduceToNat, Int.reduceAdd, Int.reduceSub, Int.reduceMul]
 have a1 := decide_eq_false c
 have n0 : ((r.N : Int) = 0) = False := by simp; omega
 have t1 : Int.tmod n (r.N : Int) = ((pl r n : Nat) : Int) := by rw [tmod_nn _ _ (by omega)]; exact pl_int R n
 have hp := pl_lt R n
 obtain ⟨hs, _⟩ := R.stamp hp
 have hs := ints_get .i64 _ hs
 have hq := R.ptr hp
 by_cases c2 : ctr st (pl r n) = n + 1
 ·have a2 : (ctr st (pl r n) != n + 1) = false := by rw [c2]; exact bne_self_eq_false _
  rw [if_pos ⟨by omega, c2⟩]
  simp (disch := omega) only [c171, ↓R171, a1, ox, os, ot, n0, t1, hs, hq, a2, ↓RnP, RnQ, Nat.reduceEqDiff, Nat.reduceAdd, Nat.reduceMul, Nat.reduceSub, Nat.reduceLT, Nat.reduceLeDiff, Nat.reduceBEq, Int.reduceLT, Int.reduceLE, reduceCtorEq, Int.reduceToNat, Int.reduceAdd, Int.reduceSub, Int.reduceMul]
 ·have a2 : (ctr st (pl r n) != n + 1) = true := by rw [bne_iff_ne]; exact c2
  rw [if_neg (fun h => c2 h.2)]
  simp (disch := omega) only [c171, ↓R171, a1, ox, os, ot, n0, t1, hs, hq, a2, ↓RnP, RnQ, Nat.reduceEqDiff, Nat.reduceAdd, Nat.reduceMul, Nat.reduceSub, Nat.reduceLT, Nat.reduceLeDiff, Nat.reduceBEq, Int.reduceLT, Int.reduceLE, reduceCtorEq, Int.reduceToNat, Int.reduceAdd, Int.reduceSub, Int.reduceMul]
theorem RingAt.setNow (R : RingAt h r now st cs) (t : Int) : RingAt (h.upd r.x (.cells (ringC r t) 201 .fix)) r t st cs := by
 have o : OldX r.x h (h.upd r.x (.cells (ringC r t) 201 .fix)) := ⟨Nat.le_refl _, fun b _ hb => obj_upd_ne _ _ hb⟩
 exact { R with
  ox := obj_upd_same _ _ _
  os := (o.obj _ R.ls (Ne.symm R.xx.1)).trans R.os
  ot := (o.obj _ R.lt (Ne.symm R.xx.2.1)).trans R.ot
  lx := R.lx, ls := R.ls, lt := R.lt
  sl := fun i hi => (R.sl i hi).oldx o (R.px i hi).1 (Ne.symm (R.xn i hi).1) R.rx.1 }
theorem to_ok (R : RingAt h r now st cs) (t : Int) {Q : Value → Heap → Prop} (hQ : ∀ h', OldX r.x h h' → RingAt h' r (max now t) st cs → Q (.tuple #[]) h') :
  CALL cp 129 [.pointer (some ⟨r.x, 0, none⟩), .int .i64 t] h Q := by
 rw [CALL_enter cp cp129]
 have ox := R.ox
 simp (disch := omega) only [c129, ↓R129, ox, eqS, ↓mm_max, ↓RnP, RnQ, Nat.reduceEqDiff, Nat.reduceAdd, Nat.reduceMul, Nat.reduceSub, Nat.reduceLT, Nat.reduceLeDiff, Nat.reduceBEq, Int.reduceLT, Int.reduceLE, reduceCtorEq, Int.reduceToNat, Int.reduceAdd, Int.reduceSub, Int.reduceMul]
 exact hQ _ ⟨Nat.le_refl _, fun b _ hb => obj_upd_ne _ _ hb⟩ (R.setNow _)
def putC (cs : Nat → List Int) (i : Nat) (c : List Int) : Nat → List Int := fun j => if j = i then c else cs j
structure OldR (r : RP) (h h' : Heap) : Prop where
 next : h.next ≤ h'.next
 obj : ∀ b, b < h.next → b ≠ r.x → b ≠ r.tb → (∀ i, i < r.N → b ≠ r.nbs i) → h'.obj b = h.obj b
theorem OldR.trans {a b c : Heap} (h : OldR r a b) (k : OldR r b c) : OldR r a c := ⟨Nat.le_trans h.next k.next, fun x hx h1 h2 h3 => by rw [k.obj x (Nat.lt_of_lt_of_le hx h.next) h1 h2 h3, h.obj x hx h1 h2 h3]⟩
theorem Old.ring {a b : Heap} (o : Old a b) (r : RP) : OldR r a b := ⟨o.next, fun x hx _ _ _ => o.obj x hx⟩
theorem OldX.ringX {a b : Heap} (o : OldX r.x a b) : OldR r a b := ⟨o.next, fun x hx h1 _ _ => o.obj x hx h1⟩
theorem OldX.ringT {a b : Heap} (o : OldX r.tb a b) : OldR r a b := ⟨o.next, fun x hx _ h2 _ => o.obj x hx h2⟩
theorem OldX.ringN {a b : Heap} {i : Nat} (hi : i < r.N) (o : OldX (r.nbs i) a b) : OldR r a b := ⟨o.next, fun x hx _ _ h3 => o.obj x hx (h3 i hi)⟩
theorem RingAt.setSlot (R : RingAt h r now st cs) {i : Nat} (hi : i < r.N) (o : OldX (r.nbs i) h h') {c : List Int} (S : SlotAt h' (r.ps i) (r.nbs i) r.rv r.rb r.rows r.w c) : RingAt h' r now st (putC cs i c) where
 ox := (o.obj _ R.lx (R.xn i hi).1).trans R.ox
 lx := Nat.lt_of_lt_of_le R.lx o.next
 os := (o.obj _ R.ls (R.xn i hi).2.1).trans R.os
 ls := Nat.lt_of_lt_of_le R.ls o.next
 ot := (o.obj _ R.lt (R.xn i hi).2.2).trans R.ot
 lt := Nat.lt_of_lt_of_le R.lt o.next
 len := R.len
 s64 := R.s64
 hN := R.hN
 hW := R.hW
 hL := R.hL
 sl := fun j hj => by
  unfold putC
  by_cases e : j = i
  ·subst e; rw [if_pos rfl]; exact S
  ·rw [if_neg e]; exact (R.sl j hj).oldx o (R.pn j i hj hi) (R.nn j i hj hi e) (R.sl i hi).rn
 nn := R.nn
 pn := R.pn
 xn := R.xn
 px := R.px
 xx := R.xx
 rx := R.rx
theorem RingAt.setStamp (R : RingAt h r now st cs) (i : Nat) (v : Int) (hv : I64 v) : RingAt (h.upd r.tb (.cells (ints .i64 (st.set i v)) 2 .grow)) r now (st.set i v) cs := by
 have o : OldX r.tb h (h.upd r.tb (.cells (ints .i64 (st.set i v)) 2 .grow)) := ⟨Nat.le_refl _, fun b _ hb => obj_upd_ne _ _ hb⟩
 exact { R with
  ox := (o.obj _ R.lx R.xx.2.1).trans R.ox
  os := (o.obj _ R.ls R.xx.2.2).trans R.os
  ot := obj_upd_same _ _ _
  lx := R.lx, ls := R.ls, lt := R.lt
  len := by rw [List.length_set]; exact R.len
  s64 := set64 R.s64 hv
  sl := fun j hj => (R.sl j hj).oldx o (R.px j hj).2 (Ne.symm (R.xn j hj).2.2) R.rx.2 }
def baseC (r : RP) (st : List Int) (cs : Nat → List Int) (n : Int) : List Int := if ctr st (pl r n) = n + 1 then cs (pl r n) else List.replicate (r.rows.length * r.w) 0
theorem radd_ok (R : RingAt h r now st cs) (hnow : 0 ≤ now ∧ now ≤ 9223372036854770000) (key : ByteArray) (hs : key.size ≤ 140737488355328) (cost : Int) (hc : I64 cost) {Q : Value → Heap → Prop}
  (hQ : ∀ h', OldR r h h' → RingAt h' r now (st.set (pl r (now / r.W)) (now / r.W + 1)) (putC cs (pl r (now / r.W)) (addC (baseC r st cs (now / r.W)) (ix r.rows r.w key) r.rows.length cost)) → Q (.tuple #[]) h') :
  CALL cp 136 [.pointer (some ⟨r.x, 0, none⟩), .string key, .int .i64 cost] h Q := by
 rw [CALL_enter cp cp136]
 have ox := R.ox
 have os := R.os
 have ot := R.ot
 have hN := R.hN
 have hW := R.hW
 have fn := fun Q => number_ok R now (by omega) Q
 obtain ⟨n, hn⟩ : ∃ n, n = now / r.W := ⟨_, rfl⟩
 have q0 : 0 ≤ n := by rw [hn]; exact Int.ediv_nonneg hnow.1 (by omega)
 have q1 : n ≤ now := by rw [hn]; exact Int.ediv_le_self r.W hnow.1
 rw [← hn] at fn hQ
 have n0 : ((r.N : Int) = 0) = False := by simp; omega
 have t1 : Int.tmod n (r.N : Int) = ((pl r n : Nat) : Int) := by rw [tmod_nn _ _ q0]; exact pl_int R n
 have hp := pl_lt R n
 obtain ⟨hst, _⟩ := R.stamp hp
 have hsl := List.getElem?_eq_some_iff.1 hst
 have hst := ints_get .i64 _ hst
 have hq := R.ptr hp
 have len := R.len
 unfold baseC at hQ
 by_cases c : ctr st (pl r n) = n + 1
 ·have a2 : (ctr st (pl r n) != n + 1) = false := by rw [c]; exact bne_self_eq_false _
  rw [if_pos c] at hQ
  have hset : st.set (pl r n) (n + 1) = st := by
   obtain ⟨hl, hv⟩ := hsl
   rw [c] at hv
   rw [← hv]; exact List.set_getElem_self hl
  rw [hset] at hQ
  simp (disch := omega) only [c136, ↓R136, ox, os, ot, eqS, fn, n0, t1, hst, hq, a2, ↓RnP, RnQ, Nat.reduceEqDiff, Nat.reduceAdd, Nat.reduceMul, Nat.reduceSub, Nat.reduceLT, Nat.reduceLeDiff, Nat.reduceBEq, Int.reduceLT, Int.reduceLE, reduceCtorEq, Int.reduceToNat, Int.reduceAdd, Int.reduceSub, Int.reduceMul]
  refine add_ok' (R.sl _ hp) key hs cost hc fun h1 o1 S1 => ?_
  simp (disch := omega) only [c136, ↓R136, ↓RnP, RnQ, Nat.reduceEqDiff, Nat.reduceAdd, Nat.reduceMul, Nat.reduceSub, Nat.reduceLT, Nat.reduceLeDiff, Nat.reduceBEq, Int.reduceLT, Int.reduceLE, reduceCtorEq, Int.reduceToNat, Int.reduceAdd, Int.reduceSub, Int.reduceMul]
  exact hQ _ (o1.ringN hp) (R.setSlot hp o1 S1)
 ·have a2 : (ctr st (pl r n) != n + 1) = true := by rw [bne_iff_ne]; exact c
  rw [if_neg c] at hQ
  simp (disch := omega) only [c136, ↓R136, ox, os, ot, eqS, fn, n0, t1, hst, hq, a2, ↓RnP, RnQ, Nat.reduceEqDiff, Nat.reduceAdd, Nat.reduceMul, Nat.reduceSub, Nat.reduceLT, Nat.reduceLeDiff, Nat.reduceBEq, Int.reduceLT, Int.reduceLE, reduceCtorEq, Int.reduceToNat, Int.reduceAdd, Int.reduceSub, Int.reduceMul]
  refine clear_ok (R.sl _ hp) fun h1 o1 S1 => ?_
  have R1 := R.setSlot hp o1 S1
  have ox1 := R1.ox
  have os1 := R1.os
  have ot1 := R1.ot
  have R2 := R1.setStamp (pl r n) (n + 1) (by unfold I64; omega)
  have xt := R.xx.2.1
  have st' := R.xx.2.2
  have nt := (R.xn _ hp).2.2
  simp (disch := omega) only [c136, ↓R136, ox1, os1, ot1, hq, setAt_one, ints_set, len, ↓RnP, RnQ, Nat.reduceEqDiff, Nat.reduceAdd, Nat.reduceMul, Nat.reduceSub, Nat.reduceLT, Nat.reduceLeDiff, Nat.reduceBEq, Int.reduceLT, Int.reduceLE, reduceCtorEq, Int.reduceToNat, Int.reduceAdd, Int.reduceSub, Int.reduceMul]
  refine add_ok' (R2.sl _ hp) key hs cost hc fun h2 o2 S2 => ?_
  have R3 := R2.setSlot hp o2 S2
  have oT : OldX r.tb h1 (h1.upd r.tb (.cells (ints .i64 (st.set (pl r n) (n + 1))) 2 .grow)) := ⟨Nat.le_refl _, fun b _ hb => obj_upd_ne _ _ hb⟩
  simp (disch := omega) only [c136, ↓R136, ↓RnP, RnQ, Nat.reduceEqDiff, Nat.reduceAdd, Nat.reduceMul, Nat.reduceSub, Nat.reduceLT, Nat.reduceLeDiff, Nat.reduceBEq, Int.reduceLT, Int.reduceLE, reduceCtorEq, Int.reduceToNat, Int.reduceAdd, Int.reduceSub, Int.reduceMul]
  refine hQ _ (((o1.ringN hp).trans oT.ringT).trans (o2.ringN hp)) ?_
  have e : ∀ c d, putC (putC cs (pl r n) c) (pl r n) d = putC cs (pl r n) d := fun c d => by funext j; unfold putC; split <;> rfl
  have e2 : ∀ c, putC cs (pl r n) c (pl r n) = c := fun c => by unfold putC; rw [if_pos rfl]
  rw [e, e2] at R3
  exact R3
def eldN (r : RP) (m into : Nat) : Nat := if r.part then ceilN (m * (r.W.toNat - into)) r.W.toNat else m
theorem eldest_ok (R : RingAt h r now st cs) (m into : Nat) (hm : m ≤ 9223372036854775807) (hi : (into : Int) < r.W) (Q : Value → Heap → Prop) :
  CALL cp 173 [.pointer (some ⟨r.x, 0, none⟩), .int .i64 m, .int .i64 into] h Q ↔ Q (.int .i64 (eldN r m into : Nat)) h := by
 refine CALL_det ?_ Q
 rw [CALL_enter cp cp173]
 have ox := R.ox
 have hW := R.hW
 unfold eldN
 cases hp : r.part with
 | false =>
  simp (disch := omega) only [c173, ↓R173, ox, hp, ↓RnP, RnQ, Nat.reduceEqDiff, Nat.reduceAdd, Nat.reduceMul, Nat.reduceSub, Nat.reduceLT, Nat.reduceLeDiff, Nat.reduceBEq, Int.reduceLT, Int.reduceLE, reduceCtorEq, Int.reduceToNat, Int.reduceAdd, Int.reduceSub, Int.reduceMul]
  first | done | trivial
 | true =>
  obtain ⟨W, hWn⟩ : ∃ W : Nat, r.W = W := ⟨r.W.toNat, by omega⟩
  have hmul : m * (W - into) ≤ m * W := Nat.mul_le_mul_left m (Nat.sub_le _ _)
  have hmul2 : m * W ≤ 9223372036854775807 * W := Nat.mul_le_mul_right W hm
  have hq : m * (W - into) / W ≤ m := Nat.div_le_of_le_mul (by rw [Nat.mul_comm W]; exact hmul)
  have f := fun h => up_ok h m (W - into) W (by omega) (by omega) (by omega) (by omega) (by omega)
  have cl : ceilN (m * (W - into)) W ≤ m := by
   unfold ceilN
   split
   ·exact hq
   ·rename_i hne
    have h1 := Nat.div_add_mod (m * (W - into)) W
    have h2 : W * (m * (W - into) / W) < W * m := by rw [Nat.mul_comm W m]; omega
    have := Nat.lt_of_mul_lt_mul_left h2
    omega
  have sb : r.W - (into : Int) = ((W - into : Nat) : Int) := by omega
  have sb' : (W : Int) - (into : Int) = ((W - into : Nat) : Int) := by omega
  have k1 : r.W.toNat = W := by omega
  rw [if_pos rfl, k1]
  simp (disch := omega) only [c173, ↓R173, ox, hp, hWn, sb', f, ↓RnP, RnQ, Nat.reduceEqDiff, Nat.reduceAdd, Nat.reduceMul, Nat.reduceSub, Nat.reduceLT, Nat.reduceLeDiff, Nat.reduceBEq, Int.reduceLT, Int.reduceLE, reduceCtorEq, Int.reduceToNat, Int.reduceAdd, Int.reduceSub, Int.reduceMul]
theorem eldN_le (R : RingAt h r now st cs) (m into : Nat) : eldN r m into ≤ m := by
 have hW := R.hW
 unfold eldN
 split
 ·obtain ⟨W, hWn⟩ : ∃ W : Nat, r.W.toNat = W := ⟨_, rfl⟩
  rw [hWn]
  have hmul : m * (W - into) ≤ m * W := Nat.mul_le_mul_left m (Nat.sub_le _ _)
  have hq : m * (W - into) / W ≤ m := Nat.div_le_of_le_mul (by rw [Nat.mul_comm W]; exact hmul)
  unfold ceilN
  split
  ·exact hq
  ·rename_i hne
   have h1 := Nat.div_add_mod (m * (W - into)) W
   have h2 : W * (m * (W - into) / W) < W * m := by rw [Nat.mul_comm W m]; omega
   have := Nat.lt_of_mul_lt_mul_left h2
   omega
 ·exact Nat.le_refl _
def leastAt (r : RP) (st : List Int) (cs : Nat → List Int) (key : ByteArray) (n : Int) : Int := if alive r st n then leastN (cs (pl r n)) (ix r.rows r.w key) (r.rows.length - 1) else 0
def termN (r : RP) (st : List Int) (cs : Nat → List Int) (key : ByteArray) (n : Int) (into : Nat) (k : Nat) : Int :=
 if k = 0 then ((eldN r (leastAt r st cs key (n - r.N + 1 + k)).toNat into : Nat) : Int) else leastAt r st cs key (n - r.N + 1 + k)
def fromN (r : RP) (st : List Int) (cs : Nat → List Int) (key : ByteArray) (n : Int) (into : Nat) : Nat → Int
 | 0 => 0
 | k + 1 => near (fromN r st cs key n into k + termN r st cs key n into k)
theorem ofLeast_ok (R : RingAt h r now st cs) (n : Int) (key : ByteArray) (hs : key.size ≤ 140737488355328) {Q : Value → Heap → Prop} (hQ : ∀ h', Old h h' → Q (.int .i64 (leastAt r st cs key n)) h') :
  CALL cp 172 [if alive r st n then .pointer (some ⟨r.ps (pl r n), 0, none⟩) else .pointer none, .string key] h Q := by
 unfold leastAt at hQ
 by_cases c : alive r st n
 ·rw [if_pos c]
  rw [if_pos c] at hQ
  exact least_ok (R.sl _ (pl_lt R n)) key hs hQ
 ·rw [if_neg c]
  rw [if_neg c] at hQ
  exact (least_nil h key Q).2 (hQ h (Old.refl h))
theorem from_ok (R : RingAt h r now st cs) (n : Int) (hn : 0 ≤ n ∧ n ≤ 9223372036854770000) (into : Nat) (hi : (into : Int) < r.W) (key : ByteArray) (hs : key.size ≤ 140737488355328)
  (pos : ∀ i, 0 ≤ leastAt r st cs key i ∧ leastAt r st cs key i ≤ 9223372036854775807) {Q : Value → Heap → Prop}
  (hQ : ∀ h', Old h h' → Q (.int .i64 (fromN r st cs key n into r.N)) h') : CALL cp 157 [.pointer (some ⟨r.x, 0, none⟩), .string key, .int .i64 n, .int .i64 into] h Q := by
 rw [CALL_enter cp cp157]
 have ox := R.ox
 have hN := R.hN
 simp (disch := omega) only [c157, ↓R157, ox, ↓RnP, RnQ, Nat.reduceEqDiff, Nat.reduceAdd, Nat.reduceMul, Nat.reduceSub, Nat.reduceLT, Nat.reduceLeDiff, Nat.reduceBEq, Int.reduceLT, Int.reduceLE, reduceCtorEq, Int.reduceToNat, Int.reduceAdd, Int.reduceSub, Int.reduceMul]
 refine RunC_loop cp c157_l0 _ (fun d e hh => ∃ k : Nat, k + d = r.N ∧ Old h hh ∧ e 0 = .pointer (some ⟨r.x, 0, none⟩) ∧ e 1 = .string key ∧ e 2 = .int .i64 n ∧ e 3 = .int .i64 into ∧ e 9 = .int .i64 (fromN r st cs key n into k) ∧ e 10 = .int .i64 (n - r.N + 1 + k)) ?_ r.N _ _
  ⟨0, by omega, Old.refl _, rfl, rfl, rfl, rfl, rfl, by show Value.int .i64 _ = _; congr 1; omega⟩
 rintro d e hh ⟨k, hk, o, e0, e1, e2, e3, e9, e10⟩
 have R1 := R.old o
 have ox := R1.ox
 by_cases c : k < r.N
 ·have b1 : decide (n - r.N + 1 + k ≤ n) = true := decide_eq_true (by omega)
  have f := fun Q => of_ok R1 (n - r.N + 1 + k) (by omega) Q
  simp (disch := omega) only [c157_l0, c157, ↓R157, e0, e1, e2, e3, e9, e10, b1, f, ↓RnP, RnQ, Nat.reduceEqDiff, Nat.reduceAdd, Nat.reduceMul, Nat.reduceSub, Nat.reduceLT, Nat.reduceLeDiff, Nat.reduceBEq, Int.reduceLT, Int.reduceLE, reduceCtorEq, Int.reduceToNat, Int.reduceAdd, Int.reduceSub, Int.reduceMul]
  refine ofLeast_ok R1 _ key hs fun h2 o2 => ?_
  have R2 := R1.old o2
  have ox := R2.ox
  have p := pos (n - r.N + 1 + k)
  have nx : n - r.N + 1 + k + 1 = n - r.N + 1 + ((k + 1 : Nat) : Int) := by omega
  have fin : I64 (fromN r st cs key n into k) := by cases k with
   | zero => exact (by unfold fromN I64; omega)
   | succ k => exact near_in _
  by_cases c0 : k = 0
  ·subst c0
   have b2 : (n - r.N + 1 + ((0 : Nat) : Int) == n - r.N + 1) = true := by rw [beq_iff_eq]; omega
   obtain ⟨M, hM⟩ : ∃ M : Nat, leastAt r st cs key (n - r.N + 1 + ((0 : Nat) : Int)) = M := ⟨(leastAt r st cs key (n - r.N + 1 + ((0 : Nat) : Int))).toNat, by omega⟩
   have fe := fun Q => eldest_ok R2 M into (by omega) hi Q
   have el := eldN_le R M into
   have fs := fun h => sum_ok h (fromN r st cs key n into 0) ((eldN r M into : Nat) : Int) fin (by unfold I64; omega)
   simp (disch := omega) only [c157, ↓R157, e0, e1, e2, e3, e9, e10, ox, b2, hM, fe, fs, nx, ↓RnP, RnQ, Nat.reduceEqDiff, Nat.reduceAdd, Nat.reduceMul, Nat.reduceSub, Nat.reduceLT, Nat.reduceLeDiff, Nat.reduceBEq, Int.reduceLT, Int.reduceLE, reduceCtorEq, Int.reduceToNat, Int.reduceAdd, Int.reduceSub, Int.reduceMul]
   refine ⟨d - 1, by omega, 0 + 1, by omega, o.trans o2, ?_⟩
   have e : fromN r st cs key n into (0 + 1) = near (fromN r st cs key n into 0 + ((eldN r M into : Nat) : Int)) := by simp only [fromN, termN, if_true]; rw [hM, Int.toNat_natCast]
   rw [e]
   repeat' first | assumption | rfl | apply And.intro
  ·have b2 : (n - r.N + 1 + (k : Int) == n - r.N + 1) = false := by rw [beq_eq_false_iff_ne]; omega
   have fs := fun h => sum_ok h (fromN r st cs key n into k) (leastAt r st cs key (n - r.N + 1 + k)) fin (by unfold I64; omega)
   simp (disch := omega) only [c157, ↓R157, e0, e1, e2, e3, e9, e10, ox, b2, fs, nx, ↓RnP, RnQ, Nat.reduceEqDiff, Nat.reduceAdd, Nat.reduceMul, Nat.reduceSub, Nat.reduceLT, Nat.reduceLeDiff, Nat.reduceBEq, Int.reduceLT, Int.reduceLE, reduceCtorEq, Int.reduceToNat, Int.reduceAdd, Int.reduceSub, Int.reduceMul]
   refine ⟨d - 1, by omega, k + 1, by omega, o.trans o2, ?_⟩
   have e : fromN r st cs key n into (k + 1) = near (fromN r st cs key n into k + leastAt r st cs key (n - r.N + 1 + k)) := by simp only [fromN, termN]; rw [if_neg c0]
   rw [e]
   repeat' first | assumption | rfl | apply And.intro
 ·have b1 : decide (n - r.N + 1 + k ≤ n) = false := decide_eq_false (by omega)
  obtain rfl : k = r.N := by omega
  simp (disch := omega) only [c157_l0, c157, ↓R157, e0, e1, e2, e3, e9, e10, b1, ↓RnP, RnQ, Nat.reduceEqDiff, Nat.reduceAdd, Nat.reduceMul, Nat.reduceSub, Nat.reduceLT, Nat.reduceLeDiff, Nat.reduceBEq, Int.reduceLT, Int.reduceLE, reduceCtorEq, Int.reduceToNat, Int.reduceAdd, Int.reduceSub, Int.reduceMul]
  exact hQ _ o
def estN (r : RP) (now : Int) (st : List Int) (cs : Nat → List Int) (key : ByteArray) : Int := fromN r st cs key (now / r.W) (now % r.W).toNat r.N
theorem estimate_ok (R : RingAt h r now st cs) (hnow : 0 ≤ now ∧ now ≤ 9223372036854770000) (key : ByteArray) (hs : key.size ≤ 140737488355328)
  (pos : ∀ i, 0 ≤ leastAt r st cs key i ∧ leastAt r st cs key i ≤ 9223372036854775807) {Q : Value → Heap → Prop}
  (hQ : ∀ h', Old h h' → Q (.int .i64 (estN r now st cs key)) h') : CALL cp 135 [.pointer (some ⟨r.x, 0, none⟩), .string key] h Q := by
 rw [CALL_enter cp cp135]
 have ox := R.ox
 have hW := R.hW
 have fn := fun Q => number_ok R now (by omega) Q
 have n0 : (r.W = 0) = False := by simp; omega
 have q0 : 0 ≤ now / r.W := Int.ediv_nonneg hnow.1 (by omega)
 have q1 : now / r.W ≤ now := Int.ediv_le_self r.W hnow.1
 have m0 : 0 ≤ now % r.W := Int.emod_nonneg now (by omega)
 have m1 : now % r.W < r.W := Int.emod_lt_of_pos now (by omega)
 obtain ⟨g, hg⟩ : ∃ g : Nat, now % r.W = g := ⟨(now % r.W).toNat, by omega⟩
 have t1 : Int.tmod now r.W = (g : Int) := by rw [tmod_nn _ _ hnow.1]; exact hg
 have e : estN r now st cs key = fromN r st cs key (now / r.W) g r.N := by unfold estN; rw [hg, Int.toNat_natCast]
 rw [e] at hQ
 simp (disch := omega) only [c135, ↓R135, ox, eqS, fn, n0, t1, ↓RnP, RnQ, Nat.reduceEqDiff, Nat.reduceAdd, Nat.reduceMul, Nat.reduceSub, Nat.reduceLT, Nat.reduceLeDiff, Nat.reduceBEq, Int.reduceLT, Int.reduceLE, reduceCtorEq, Int.reduceToNat, Int.reduceAdd, Int.reduceSub, Int.reduceMul]
 refine from_ok R _ (by omega) g (by omega) key hs pos fun h' o => ?_
 simp (disch := omega) only [c135, ↓R135, ↓RnP, RnQ, Nat.reduceEqDiff, Nat.reduceAdd, Nat.reduceMul, Nat.reduceSub, Nat.reduceLT, Nat.reduceLeDiff, Nat.reduceBEq, Int.reduceLT, Int.reduceLE, reduceCtorEq, Int.reduceToNat, Int.reduceAdd, Int.reduceSub, Int.reduceMul]
 exact hQ _ o
end
end Go.Proofs.YtlakhgibjfmjjaaGreat.Can
