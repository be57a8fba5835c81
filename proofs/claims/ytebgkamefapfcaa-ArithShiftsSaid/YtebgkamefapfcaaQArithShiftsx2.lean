-- Laid by a program of this session (wip/myprint.py, over the kit's print.py): a walk of the code and what it computes.
import Derived.Test.YtebgkamefapfcaaQArithShiftsx0
import Derived.Test.YtebgkamefapfcaaQArithShiftsx1
namespace Go.Proofs.Ytebgkamefapfcaa.QArithShifts
open Go.RowKit Go.Proofs.YtebgkamefapfcaaW.PrintWords Go.Proofs.YtebgkamefapfcaaW.PrintLast Go.Proofs.YtebgkamefapfcaaW.PrintMore
attribute [local go_sem] max2_int min2_int max_two min_two max_three min_three max_four min_four   -- for this text's walks alone
set_option linter.unusedVariables false
set_option linter.unusedSimpArgs false

/-! ### arith_Up: function 14 -/
def arith_Up.j0 : Nat → Int → Int → Bool → Option (Int × Bool)
  | 0, _, _, _ => none
  | k + 1, x8, x9, x28 => if x28 = true then (some (0, false)) else (if x9 > 0 then (some (IntKind.u64.wrap (x8 + 1), true)) else (some (x8, true)))
def arith_Up.f (k : Nat) (a0 : Int) (a1 : Int) (a2 : Int) : Option (Int × Bool) := (arith_divide.f k a0 a1 a2).bind fun bt110 => (if bt110.2.2 = true then (if bt110.2.1 > 0 then (arith_Up.j0 k bt110.1 bt110.2.1 (bt110.1 == 18446744073709551615)) else (arith_Up.j0 k bt110.1 bt110.2.1 false)) else (arith_Up.j0 k bt110.1 bt110.2.1 true))
theorem arith_Up.mono_l : ∀ k, (∀ y0 y1 y2, LeO (arith_Up.j0 k y0 y1 y2) (arith_Up.j0 (k + 1) y0 y1 y2))
  | 0 => fun _ _ _ r h => by simp [arith_Up.j0] at h
  | k + 1 => by
    have ih0 := arith_Up.mono_l k
    · intro y0 y1 y2
      unfold arith_Up.j0
      repeat' first
      | (with_reducible exact ih0 _ _ _)
      | (with_reducible exact arith_divide.mono _ _ _ _)
      | (with_reducible exact LeO.refl _)
      | (with_reducible exact LeO.none _)
      | (with_reducible refine LeO.ite ?_ ?_)
      | (with_reducible refine LeO.bind ?_ (fun _ => ?_))
      | exact ih0 _ _ _
      | exact arith_divide.mono _ _ _ _
      | exact LeO.none _
      | refine LeO.ite ?_ ?_
      | refine LeO.bind ?_ (fun _ => ?_)
theorem arith_Up.mono : ∀ a0 a1 a2 k, LeO (arith_Up.f k a0 a1 a2) (arith_Up.f (k + 1) a0 a1 a2) := by
  intro a0 a1 a2 k
  have ih0 := arith_Up.mono_l k
  unfold arith_Up.f
  repeat' first
      | (with_reducible exact ih0 _ _ _)
      | (with_reducible exact arith_divide.mono _ _ _ _)
      | (with_reducible exact LeO.refl _)
      | (with_reducible exact LeO.none _)
      | (with_reducible refine LeO.ite ?_ ?_)
      | (with_reducible refine LeO.bind ?_ (fun _ => ?_))
      | exact ih0 _ _ _
      | exact arith_divide.mono _ _ _ _
      | exact LeO.none _
      | refine LeO.ite ?_ ?_
      | refine LeO.bind ?_ (fun _ => ?_)
set_option maxHeartbeats 8000000 in
set_option maxRecDepth 100000 in
theorem arith_Up.calls (k : Nat) (a0 : Int) (a1 : Int) (a2 : Int) (r1 : Int) (r2 : Bool) (w : World) (h : arith_Up.f k a0 a1 a2 = some (r1, r2)) :
    Calls Try.prog 14 #[.int .u64 a0, .int .u64 a1, .int .u64 a2] w fun e w' => e = .returned (.tuple #[.int .u64 r1, .bool r2]) ∧ Drawn0 w w' := by
  have H : ((arith_divide.f k a0 a1 a2).bind fun bt110 => (if bt110.2.2 = true then (if bt110.2.1 > 0 then (arith_Up.j0 k bt110.1 bt110.2.1 (bt110.1 == 18446744073709551615)) else (arith_Up.j0 k bt110.1 bt110.2.1 false)) else (arith_Up.j0 k bt110.1 bt110.2.1 true))) = some (r1, r2) := h
  clear h
  replace H := Option.bind_eq_some_iff.mp H
  obtain ⟨⟨t110, t111, t112⟩, A40, H⟩ := H
  replace H : (if t112 = true then (if t111 > 0 then (arith_Up.j0 k t110 t111 (t110 == 18446744073709551615)) else (arith_Up.j0 k t110 t111 false)) else (arith_Up.j0 k t110 t111 true)) = some (r1, r2) := H
  have A4 := Aside0.mk A40
  clear A40
  have HC5 := Aside0.mk H
  clear H
  go_enter Try.func14, Try.ntmps14
  go_upto_region 2 with (first | ((with_reducible refine gate_callee (f := 26) rfl ?_); refine goesL_ (some 15) rfl rfl Try.func26 (by kernel_rfl) rfl #[.int .u64 a0, .int .u64 a1, .int .u64 a2] rfl (by (try simp only [List.map_toArray, List.map_cons, List.map_nil]); first | done | rfl | (simp only [List.length_drop, List.length_take]; rfl)) ?_; (with_reducible refine (arith_divide.calls k a0 a1 a2 t110 t111 t112 _ A4.out).mono ?_); rintro e w' ⟨rfl, ⟨nd, rfl⟩⟩; refine ⟨_, rfl, ?_⟩))
  (try simp only [Act.put, List.setIfInBounds_toArray, List.set_cons_zero, List.set_cons_succ])
  go_cut [28] (fun v28 wc => ∃ (kq : Nat) (x28_4 : Bool), v28 = .bool x28_4 ∧ Aside0 (arith_Up.j0 kq t110 t111 x28_4 = some (r1, r2)) ∧ Aside0 (kq ≤ k) ∧ Drawn0 w wc)
  case first =>
    have H := HC5.out
    clear HC5
    by_cases c6 : t112 = true
    · subst c6
      have H1 : (if t111 > 0 then (arith_Up.j0 k t110 t111 (t110 == 18446744073709551615)) else (arith_Up.j0 k t110 t111 false)) = some (r1, r2) := by rw [if_pos rfl] at H; exact H
      clear H
      have H := H1
      clear H1
      by_cases c7 : t111 > 0
      · rw [if_pos c7] at H
        have c7b0 : decide (0 < t111) = true := decide_eq_true c7
        clear c7
        (first | rw [c7b0] | (simp only [i64_w, i32_w]; rw [c7b0]) | skip)
        have H' := Aside0.mk H
        clear H
        go_wp2
        go_meet
        case rel => exact ⟨_, ((t110 == 18446744073709551615)), (by first | rfl | (simp; done) | (simp [*]; done)), H', ⟨by first | omega | exact Nat.le_refl _⟩, by repeat (first | exact Drawn0.refl _ | apply Drawn0.step)⟩
      · rw [if_neg c7] at H
        have c7b0 : decide (0 < t111) = false := decide_eq_false c7
        clear c7
        (first | rw [c7b0] | (simp only [i64_w, i32_w]; rw [c7b0]) | skip)
        have H' := Aside0.mk H
        clear H
        go_wp2
        go_meet
        case rel => exact ⟨_, (false), (by first | rfl | (simp; done) | (simp [*]; done)), H', ⟨by first | omega | exact Nat.le_refl _⟩, by repeat (first | exact Drawn0.refl _ | apply Drawn0.step)⟩
    · replace c6 := Bool.eq_false_iff.mpr c6
      subst c6
      have H1 : (arith_Up.j0 k t110 t111 true) = some (r1, r2) := by rw [if_neg (show ¬ (false = true) by decide)] at H; exact H
      clear H
      have H := H1
      clear H1
      have H' := Aside0.mk H
      clear H
      go_wp2
      go_meet
      case rel => exact ⟨_, (true), (by first | rfl | (simp; done) | (simp [*]; done)), H', ⟨by first | omega | exact Nat.le_refl _⟩, by repeat (first | exact Drawn0.refl _ | apply Drawn0.step)⟩
  case rest =>
    clear HC5
    try clear c1
    try clear c2
    try clear p2
    try clear c6
    try clear c7
    try clear c7b0
    obtain ⟨kq, x28_4, rfl, HA, HJ4, ⟨mc4, rfl⟩⟩ := hcut
    cases kq with
    | zero => exact absurd HA.out (by simp [arith_Up.j0])
    | succ kj4 =>
      have H := HA.out
      clear HA
      simp only [arith_Up.j0] at H
      by_cases c8 : x28_4 = true
      · subst c8
        have H1 : (some (0, false)) = some (r1, r2) := by rw [if_pos rfl] at H; exact H
        clear H
        have H := H1
        clear H1
        simp only [Option.some.injEq, Prod.mk.injEq] at H
        obtain ⟨rfl, rfl⟩ := H
        go_wp2
        go_ret2
        exact ⟨by first | rfl | (simp; done) | (simp [*]; done), by repeat (first | exact Drawn0.refl _ | apply Drawn0.step)⟩
      · replace c8 := Bool.eq_false_iff.mpr c8
        subst c8
        have H1 : (if t111 > 0 then (some (IntKind.u64.wrap (t110 + 1), true)) else (some (t110, true))) = some (r1, r2) := by rw [if_neg (show ¬ (false = true) by decide)] at H; exact H
        clear H
        have H := H1
        clear H1
        by_cases c9 : t111 > 0
        · rw [if_pos c9] at H
          have c9b0 : decide (0 < t111) = true := decide_eq_true c9
          clear c9
          simp only [Option.some.injEq, Prod.mk.injEq] at H
          obtain ⟨rfl, rfl⟩ := H
          go_wp2
          go_ret2
          exact ⟨by first | rfl | (simp; done) | (simp [*]; done), by repeat (first | exact Drawn0.refl _ | apply Drawn0.step)⟩
        · rw [if_neg c9] at H
          have c9b0 : decide (0 < t111) = false := decide_eq_false c9
          clear c9
          simp only [Option.some.injEq, Prod.mk.injEq] at H
          obtain ⟨rfl, rfl⟩ := H
          go_wp2
          go_ret2
          exact ⟨by first | rfl | (simp; done) | (simp [*]; done), by repeat (first | exact Drawn0.refl _ | apply Drawn0.step)⟩

/-! ### weighbridgelaw01_fit: function 11 -/
def weighbridgelaw01_fit.f (k : Nat)  : Option (Bool) := (arith_Up.f k 1 1 2).bind fun bt113 => ((arith_Down.f k 9223372036854775808 4 2).bind fun bt115 => (if bt113.1 = 1 then (if bt113.2 = true then (some (!bt115.2)) else (some false)) else (some false)))
theorem weighbridgelaw01_fit.mono : ∀ k, LeO (weighbridgelaw01_fit.f k ) (weighbridgelaw01_fit.f (k + 1) ) := by
  intro  k
  unfold weighbridgelaw01_fit.f
  repeat' first
      | (with_reducible exact arith_Down.mono _ _ _ _)
      | (with_reducible exact arith_Up.mono _ _ _ _)
      | (with_reducible exact LeO.refl _)
      | (with_reducible exact LeO.none _)
      | (with_reducible refine LeO.ite ?_ ?_)
      | (with_reducible refine LeO.bind ?_ (fun _ => ?_))
      | exact arith_Down.mono _ _ _ _
      | exact arith_Up.mono _ _ _ _
      | exact LeO.none _
      | refine LeO.ite ?_ ?_
      | refine LeO.bind ?_ (fun _ => ?_)
set_option maxHeartbeats 8000000 in
set_option maxRecDepth 100000 in
theorem weighbridgelaw01_fit.calls (k : Nat)  (r : Bool) (w : World) (h : weighbridgelaw01_fit.f k  = some r) :
    Calls Try.prog 11 #[] w fun e w' => e = .returned (.bool r) ∧ Drawn0 w w' := by
  have H : ((arith_Up.f k 1 1 2).bind fun bt113 => ((arith_Down.f k 9223372036854775808 4 2).bind fun bt115 => (if bt113.1 = 1 then (if bt113.2 = true then (some (!bt115.2)) else (some false)) else (some false)))) = some r := h
  clear h
  replace H := Option.bind_eq_some_iff.mp H
  obtain ⟨⟨t113, t114⟩, A10, H⟩ := H
  replace H : ((arith_Down.f k 9223372036854775808 4 2).bind fun bt115 => (if t113 = 1 then (if t114 = true then (some (!bt115.2)) else (some false)) else (some false))) = some r := H
  have A1 := Aside0.mk A10
  clear A10
  replace H := Option.bind_eq_some_iff.mp H
  obtain ⟨⟨t115, t116⟩, A20, H⟩ := H
  replace H : (if t113 = 1 then (if t114 = true then (some (!t116)) else (some false)) else (some false)) = some r := H
  have A2 := Aside0.mk A20
  clear A20
  by_cases c3 : t113 = 1
  · rw [if_pos c3] at H
    have c3b0 : (t113 == 1) = true := beq_iff_eq.mpr c3
    have c3b1 : (t113 != 1) = false := bne_eq_false_iff_eq.mpr c3
    clear c3
    by_cases c4 : t114 = true
    · subst c4
      have H1 : (some (!t116)) = some r := by rw [if_pos rfl] at H; exact H
      clear H
      have H := H1
      clear H1
      obtain rfl := Option.some.inj H
      go_enter Try.func11, Try.ntmps11
      go_wp2_with (first | ((with_reducible refine gate_callee (f := 14) rfl ?_); refine goesL_ (some 6) rfl rfl Try.func14 (by kernel_rfl) rfl #[.int .u64 1, .int .u64 1, .int .u64 2] rfl (by (try simp only [List.map_toArray, List.map_cons, List.map_nil]); first | done | rfl | (simp only [List.length_drop, List.length_take]; rfl)) ?_; (with_reducible refine (arith_Up.calls k 1 1 2 t113 true _ A1.out).mono ?_); rintro e w' ⟨rfl, ⟨nd, rfl⟩⟩; refine ⟨_, rfl, ?_⟩) | ((with_reducible refine gate_callee (f := 12) rfl ?_); refine goesL_ (some 10) rfl rfl Try.func12 (by kernel_rfl) rfl #[.int .u64 9223372036854775808, .int .u64 4, .int .u64 2] rfl (by (try simp only [List.map_toArray, List.map_cons, List.map_nil]); first | done | rfl | (simp only [List.length_drop, List.length_take]; rfl)) ?_; (with_reducible refine (arith_Down.calls k 9223372036854775808 4 2 t115 t116 _ A2.out).mono ?_); rintro e w' ⟨rfl, ⟨nd, rfl⟩⟩; refine ⟨_, rfl, ?_⟩))
      go_ret
      exact ⟨by first | rfl | (simp; done) | (simp [*]; done), by repeat (first | exact Drawn0.refl _ | apply Drawn0.step)⟩
    · replace c4 := Bool.eq_false_iff.mpr c4
      subst c4
      have H1 : (some false) = some r := by rw [if_neg (show ¬ (false = true) by decide)] at H; exact H
      clear H
      have H := H1
      clear H1
      obtain rfl := Option.some.inj H
      go_enter Try.func11, Try.ntmps11
      go_wp2_with (first | ((with_reducible refine gate_callee (f := 14) rfl ?_); refine goesL_ (some 6) rfl rfl Try.func14 (by kernel_rfl) rfl #[.int .u64 1, .int .u64 1, .int .u64 2] rfl (by (try simp only [List.map_toArray, List.map_cons, List.map_nil]); first | done | rfl | (simp only [List.length_drop, List.length_take]; rfl)) ?_; (with_reducible refine (arith_Up.calls k 1 1 2 t113 false _ A1.out).mono ?_); rintro e w' ⟨rfl, ⟨nd, rfl⟩⟩; refine ⟨_, rfl, ?_⟩) | ((with_reducible refine gate_callee (f := 12) rfl ?_); refine goesL_ (some 10) rfl rfl Try.func12 (by kernel_rfl) rfl #[.int .u64 9223372036854775808, .int .u64 4, .int .u64 2] rfl (by (try simp only [List.map_toArray, List.map_cons, List.map_nil]); first | done | rfl | (simp only [List.length_drop, List.length_take]; rfl)) ?_; (with_reducible refine (arith_Down.calls k 9223372036854775808 4 2 t115 t116 _ A2.out).mono ?_); rintro e w' ⟨rfl, ⟨nd, rfl⟩⟩; refine ⟨_, rfl, ?_⟩))
      go_ret
      exact ⟨by first | rfl | (simp; done) | (simp [*]; done), by repeat (first | exact Drawn0.refl _ | apply Drawn0.step)⟩
  · rw [if_neg c3] at H
    have c3b0 : (t113 == 1) = false := beq_eq_false_iff_ne.mpr c3
    have c3b1 : (t113 != 1) = true := bne_iff_ne.mpr c3
    obtain rfl := Option.some.inj H
    go_enter Try.func11, Try.ntmps11
    go_wp2_with (first | ((with_reducible refine gate_callee (f := 14) rfl ?_); refine goesL_ (some 6) rfl rfl Try.func14 (by kernel_rfl) rfl #[.int .u64 1, .int .u64 1, .int .u64 2] rfl (by (try simp only [List.map_toArray, List.map_cons, List.map_nil]); first | done | rfl | (simp only [List.length_drop, List.length_take]; rfl)) ?_; (with_reducible refine (arith_Up.calls k 1 1 2 t113 t114 _ A1.out).mono ?_); rintro e w' ⟨rfl, ⟨nd, rfl⟩⟩; refine ⟨_, rfl, ?_⟩) | ((with_reducible refine gate_callee (f := 12) rfl ?_); refine goesL_ (some 10) rfl rfl Try.func12 (by kernel_rfl) rfl #[.int .u64 9223372036854775808, .int .u64 4, .int .u64 2] rfl (by (try simp only [List.map_toArray, List.map_cons, List.map_nil]); first | done | rfl | (simp only [List.length_drop, List.length_take]; rfl)) ?_; (with_reducible refine (arith_Down.calls k 9223372036854775808 4 2 t115 t116 _ A2.out).mono ?_); rintro e w' ⟨rfl, ⟨nd, rfl⟩⟩; refine ⟨_, rfl, ?_⟩))
    go_ret
    exact ⟨by first | rfl | (simp; done) | (simp [*]; done), by repeat (first | exact Drawn0.refl _ | apply Drawn0.step)⟩

/-! ### weighbridgelaw01_ArithShifts: function 5 -/
def weighbridgelaw01_ArithShifts.f (k : Nat) (a0 : Int) (a1 : Int) (a2 : Int) : Option (Bool) := (weighbridgelaw01_fit.f k).bind fun t117 => (if t117 = true then (if 0 ≤ (Go.bits .and .u64 a1 31) then (if 0 ≤ (Go.bits .and .u64 a2 31) then ((arith_Down.f k (IntKind.u64.wrap (a0)) (shl .u64 1 (Go.bits .and .u64 a1 31)) (shl .u64 1 (Go.bits .and .u64 a2 31))).bind fun bt118 => ((arith_Up.f k (IntKind.u64.wrap (a0)) (shl .u64 1 (Go.bits .and .u64 a1 31)) (shl .u64 1 (Go.bits .and .u64 a2 31))).bind fun bt120 => (if (shl .u64 (shr .u64 (shl .u64 (IntKind.u64.wrap (a0)) (Go.bits .and .u64 a1 31)) (Go.bits .and .u64 a2 31)) (Go.bits .and .u64 a2 31)) = (shl .u64 (IntKind.u64.wrap (a0)) (Go.bits .and .u64 a1 31)) then (if bt118.2 = true then (if bt120.2 = true then (if bt118.1 = (shr .u64 (shl .u64 (IntKind.u64.wrap (a0)) (Go.bits .and .u64 a1 31)) (Go.bits .and .u64 a2 31)) then (some (bt120.1 == (shr .u64 (shl .u64 (IntKind.u64.wrap (a0)) (Go.bits .and .u64 a1 31)) (Go.bits .and .u64 a2 31)))) else (some false)) else (some false)) else (some false)) else (if bt118.2 = true then (if bt120.2 = true then (if bt118.1 = (shr .u64 (shl .u64 (IntKind.u64.wrap (a0)) (Go.bits .and .u64 a1 31)) (Go.bits .and .u64 a2 31)) then (some (bt120.1 == (IntKind.u64.wrap ((shr .u64 (shl .u64 (IntKind.u64.wrap (a0)) (Go.bits .and .u64 a1 31)) (Go.bits .and .u64 a2 31)) + 1)))) else (some false)) else (some false)) else (some false))))) else (none)) else (none)) else (some false))
theorem weighbridgelaw01_ArithShifts.mono : ∀ a0 a1 a2 k, LeO (weighbridgelaw01_ArithShifts.f k a0 a1 a2) (weighbridgelaw01_ArithShifts.f (k + 1) a0 a1 a2) := by
  intro a0 a1 a2 k
  unfold weighbridgelaw01_ArithShifts.f
  repeat' first
      | (with_reducible exact arith_Down.mono _ _ _ _)
      | (with_reducible exact arith_Up.mono _ _ _ _)
      | (with_reducible exact weighbridgelaw01_fit.mono _)
      | (with_reducible exact LeO.refl _)
      | (with_reducible exact LeO.none _)
      | (with_reducible refine LeO.ite ?_ ?_)
      | (with_reducible refine LeO.bind ?_ (fun _ => ?_))
      | exact arith_Down.mono _ _ _ _
      | exact arith_Up.mono _ _ _ _
      | exact weighbridgelaw01_fit.mono _
      | exact LeO.none _
      | refine LeO.ite ?_ ?_
      | refine LeO.bind ?_ (fun _ => ?_)
set_option maxHeartbeats 8000000 in
set_option maxRecDepth 100000 in
theorem weighbridgelaw01_ArithShifts.calls (k : Nat) (a0 : Int) (a1 : Int) (a2 : Int) (r : Bool) (w : World) (h : weighbridgelaw01_ArithShifts.f k a0 a1 a2 = some r) :
    Calls Try.prog 5 #[.int .u32 a0, .int .u64 a1, .int .u64 a2] w fun e w' => e = .returned (.bool r) ∧ Drawn0 w w' := by
  have H : ((weighbridgelaw01_fit.f k).bind fun t117 => (if t117 = true then (if 0 ≤ (Go.bits .and .u64 a1 31) then (if 0 ≤ (Go.bits .and .u64 a2 31) then ((arith_Down.f k (IntKind.u64.wrap (a0)) (shl .u64 1 (Go.bits .and .u64 a1 31)) (shl .u64 1 (Go.bits .and .u64 a2 31))).bind fun bt118 => ((arith_Up.f k (IntKind.u64.wrap (a0)) (shl .u64 1 (Go.bits .and .u64 a1 31)) (shl .u64 1 (Go.bits .and .u64 a2 31))).bind fun bt120 => (if (shl .u64 (shr .u64 (shl .u64 (IntKind.u64.wrap (a0)) (Go.bits .and .u64 a1 31)) (Go.bits .and .u64 a2 31)) (Go.bits .and .u64 a2 31)) = (shl .u64 (IntKind.u64.wrap (a0)) (Go.bits .and .u64 a1 31)) then (if bt118.2 = true then (if bt120.2 = true then (if bt118.1 = (shr .u64 (shl .u64 (IntKind.u64.wrap (a0)) (Go.bits .and .u64 a1 31)) (Go.bits .and .u64 a2 31)) then (some (bt120.1 == (shr .u64 (shl .u64 (IntKind.u64.wrap (a0)) (Go.bits .and .u64 a1 31)) (Go.bits .and .u64 a2 31)))) else (some false)) else (some false)) else (some false)) else (if bt118.2 = true then (if bt120.2 = true then (if bt118.1 = (shr .u64 (shl .u64 (IntKind.u64.wrap (a0)) (Go.bits .and .u64 a1 31)) (Go.bits .and .u64 a2 31)) then (some (bt120.1 == (IntKind.u64.wrap ((shr .u64 (shl .u64 (IntKind.u64.wrap (a0)) (Go.bits .and .u64 a1 31)) (Go.bits .and .u64 a2 31)) + 1)))) else (some false)) else (some false)) else (some false))))) else (none)) else (none)) else (some false))) = some r := h
  clear h
  replace H := Option.bind_eq_some_iff.mp H
  obtain ⟨t117, A40, H⟩ := H
  replace H : (if t117 = true then (if 0 ≤ (Go.bits .and .u64 a1 31) then (if 0 ≤ (Go.bits .and .u64 a2 31) then ((arith_Down.f k (IntKind.u64.wrap (a0)) (shl .u64 1 (Go.bits .and .u64 a1 31)) (shl .u64 1 (Go.bits .and .u64 a2 31))).bind fun bt118 => ((arith_Up.f k (IntKind.u64.wrap (a0)) (shl .u64 1 (Go.bits .and .u64 a1 31)) (shl .u64 1 (Go.bits .and .u64 a2 31))).bind fun bt120 => (if (shl .u64 (shr .u64 (shl .u64 (IntKind.u64.wrap (a0)) (Go.bits .and .u64 a1 31)) (Go.bits .and .u64 a2 31)) (Go.bits .and .u64 a2 31)) = (shl .u64 (IntKind.u64.wrap (a0)) (Go.bits .and .u64 a1 31)) then (if bt118.2 = true then (if bt120.2 = true then (if bt118.1 = (shr .u64 (shl .u64 (IntKind.u64.wrap (a0)) (Go.bits .and .u64 a1 31)) (Go.bits .and .u64 a2 31)) then (some (bt120.1 == (shr .u64 (shl .u64 (IntKind.u64.wrap (a0)) (Go.bits .and .u64 a1 31)) (Go.bits .and .u64 a2 31)))) else (some false)) else (some false)) else (some false)) else (if bt118.2 = true then (if bt120.2 = true then (if bt118.1 = (shr .u64 (shl .u64 (IntKind.u64.wrap (a0)) (Go.bits .and .u64 a1 31)) (Go.bits .and .u64 a2 31)) then (some (bt120.1 == (IntKind.u64.wrap ((shr .u64 (shl .u64 (IntKind.u64.wrap (a0)) (Go.bits .and .u64 a1 31)) (Go.bits .and .u64 a2 31)) + 1)))) else (some false)) else (some false)) else (some false))))) else (none)) else (none)) else (some false)) = some r := H
  have A4 := Aside0.mk A40
  clear A40
  by_cases c5 : t117 = true
  · subst c5
    have H1 : (if 0 ≤ (Go.bits .and .u64 a1 31) then (if 0 ≤ (Go.bits .and .u64 a2 31) then ((arith_Down.f k (IntKind.u64.wrap (a0)) (shl .u64 1 (Go.bits .and .u64 a1 31)) (shl .u64 1 (Go.bits .and .u64 a2 31))).bind fun bt118 => ((arith_Up.f k (IntKind.u64.wrap (a0)) (shl .u64 1 (Go.bits .and .u64 a1 31)) (shl .u64 1 (Go.bits .and .u64 a2 31))).bind fun bt120 => (if (shl .u64 (shr .u64 (shl .u64 (IntKind.u64.wrap (a0)) (Go.bits .and .u64 a1 31)) (Go.bits .and .u64 a2 31)) (Go.bits .and .u64 a2 31)) = (shl .u64 (IntKind.u64.wrap (a0)) (Go.bits .and .u64 a1 31)) then (if bt118.2 = true then (if bt120.2 = true then (if bt118.1 = (shr .u64 (shl .u64 (IntKind.u64.wrap (a0)) (Go.bits .and .u64 a1 31)) (Go.bits .and .u64 a2 31)) then (some (bt120.1 == (shr .u64 (shl .u64 (IntKind.u64.wrap (a0)) (Go.bits .and .u64 a1 31)) (Go.bits .and .u64 a2 31)))) else (some false)) else (some false)) else (some false)) else (if bt118.2 = true then (if bt120.2 = true then (if bt118.1 = (shr .u64 (shl .u64 (IntKind.u64.wrap (a0)) (Go.bits .and .u64 a1 31)) (Go.bits .and .u64 a2 31)) then (some (bt120.1 == (IntKind.u64.wrap ((shr .u64 (shl .u64 (IntKind.u64.wrap (a0)) (Go.bits .and .u64 a1 31)) (Go.bits .and .u64 a2 31)) + 1)))) else (some false)) else (some false)) else (some false))))) else (none)) else (none)) = some r := by rw [if_pos rfl] at H; exact H
    clear H
    have H := H1
    clear H1
    by_cases c6 : 0 ≤ (Go.bits .and .u64 a1 31)
    · rw [if_pos c6] at H
      have c6b0 := eq_true c6
      have c6b1 : decide (0 ≤ (Go.bits .and .u64 a1 31)) = true := decide_eq_true c6
      clear c6
      obtain ⟨ji7, hji7⟩ : ∃ j_ : Int, (shl .u64 1 (Go.bits .and .u64 a1 31)) = j_ := ⟨_, rfl⟩
      replace H : (if 0 ≤ (Go.bits .and .u64 a2 31) then ((arith_Down.f k (IntKind.u64.wrap (a0)) (ji7) (shl .u64 1 (Go.bits .and .u64 a2 31))).bind fun bt118 => ((arith_Up.f k (IntKind.u64.wrap (a0)) (ji7) (shl .u64 1 (Go.bits .and .u64 a2 31))).bind fun bt120 => (if (shl .u64 (shr .u64 (shl .u64 (IntKind.u64.wrap (a0)) (Go.bits .and .u64 a1 31)) (Go.bits .and .u64 a2 31)) (Go.bits .and .u64 a2 31)) = (shl .u64 (IntKind.u64.wrap (a0)) (Go.bits .and .u64 a1 31)) then (if bt118.2 = true then (if bt120.2 = true then (if bt118.1 = (shr .u64 (shl .u64 (IntKind.u64.wrap (a0)) (Go.bits .and .u64 a1 31)) (Go.bits .and .u64 a2 31)) then (some (bt120.1 == (shr .u64 (shl .u64 (IntKind.u64.wrap (a0)) (Go.bits .and .u64 a1 31)) (Go.bits .and .u64 a2 31)))) else (some false)) else (some false)) else (some false)) else (if bt118.2 = true then (if bt120.2 = true then (if bt118.1 = (shr .u64 (shl .u64 (IntKind.u64.wrap (a0)) (Go.bits .and .u64 a1 31)) (Go.bits .and .u64 a2 31)) then (some (bt120.1 == (IntKind.u64.wrap ((shr .u64 (shl .u64 (IntKind.u64.wrap (a0)) (Go.bits .and .u64 a1 31)) (Go.bits .and .u64 a2 31)) + 1)))) else (some false)) else (some false)) else (some false))))) else (none)) = some r := by first | (rw [hji7] at H; exact H) | (simp only [hji7] at H ⊢; exact H)
      (try rw [hji7] at A4)
      have hji7_ : (IntKind.u64.wrap (1 * 2 ^ min (Go.bits .and .u64 a1 31).toNat 64)) = ji7 := hji7
      have hji7z : (Go.bits .and .u64 a1 31) ≤ 64 → (IntKind.u64.wrap (1 * 2 ^ (Go.bits .and .u64 a1 31).toNat)) = ji7 := shl_small hji7
      have hji7u : (IntKind.u64.wrap (2 ^ min (Go.bits .and .u64 a1 31).toNat 64)) = ji7 := by have h_ := hji7_; rw [Int.one_mul] at h_; exact h_
      have hji7v : (Go.bits .and .u64 a1 31) ≤ 64 → (IntKind.u64.wrap (2 ^ (Go.bits .and .u64 a1 31).toNat)) = ji7 := fun hle_ => by have h_ := hji7z hle_; rw [Int.one_mul] at h_; exact h_
      by_cases c8 : 0 ≤ (Go.bits .and .u64 a2 31)
      · rw [if_pos c8] at H
        have c8b0 := eq_true c8
        have c8b1 : decide (0 ≤ (Go.bits .and .u64 a2 31)) = true := decide_eq_true c8
        clear c8
        obtain ⟨ji9, hji9⟩ : ∃ j_ : Int, (shl .u64 1 (Go.bits .and .u64 a2 31)) = j_ := ⟨_, rfl⟩
        replace H : ((arith_Down.f k (IntKind.u64.wrap (a0)) (ji7) (ji9)).bind fun bt118 => ((arith_Up.f k (IntKind.u64.wrap (a0)) (ji7) (ji9)).bind fun bt120 => (if (shl .u64 (shr .u64 (shl .u64 (IntKind.u64.wrap (a0)) (Go.bits .and .u64 a1 31)) (Go.bits .and .u64 a2 31)) (Go.bits .and .u64 a2 31)) = (shl .u64 (IntKind.u64.wrap (a0)) (Go.bits .and .u64 a1 31)) then (if bt118.2 = true then (if bt120.2 = true then (if bt118.1 = (shr .u64 (shl .u64 (IntKind.u64.wrap (a0)) (Go.bits .and .u64 a1 31)) (Go.bits .and .u64 a2 31)) then (some (bt120.1 == (shr .u64 (shl .u64 (IntKind.u64.wrap (a0)) (Go.bits .and .u64 a1 31)) (Go.bits .and .u64 a2 31)))) else (some false)) else (some false)) else (some false)) else (if bt118.2 = true then (if bt120.2 = true then (if bt118.1 = (shr .u64 (shl .u64 (IntKind.u64.wrap (a0)) (Go.bits .and .u64 a1 31)) (Go.bits .and .u64 a2 31)) then (some (bt120.1 == (IntKind.u64.wrap ((shr .u64 (shl .u64 (IntKind.u64.wrap (a0)) (Go.bits .and .u64 a1 31)) (Go.bits .and .u64 a2 31)) + 1)))) else (some false)) else (some false)) else (some false))))) = some r := by first | (rw [hji9] at H; exact H) | (simp only [hji9] at H ⊢; exact H)
        (try rw [hji9] at A4)
        have hji9_ : (IntKind.u64.wrap (1 * 2 ^ min (Go.bits .and .u64 a2 31).toNat 64)) = ji9 := hji9
        have hji9z : (Go.bits .and .u64 a2 31) ≤ 64 → (IntKind.u64.wrap (1 * 2 ^ (Go.bits .and .u64 a2 31).toNat)) = ji9 := shl_small hji9
        have hji9u : (IntKind.u64.wrap (2 ^ min (Go.bits .and .u64 a2 31).toNat 64)) = ji9 := by have h_ := hji9_; rw [Int.one_mul] at h_; exact h_
        have hji9v : (Go.bits .and .u64 a2 31) ≤ 64 → (IntKind.u64.wrap (2 ^ (Go.bits .and .u64 a2 31).toNat)) = ji9 := fun hle_ => by have h_ := hji9z hle_; rw [Int.one_mul] at h_; exact h_
        replace H := Option.bind_eq_some_iff.mp H
        obtain ⟨⟨t118, t119⟩, A100, H⟩ := H
        replace H : ((arith_Up.f k (IntKind.u64.wrap (a0)) (ji7) (ji9)).bind fun bt120 => (if (shl .u64 (shr .u64 (shl .u64 (IntKind.u64.wrap (a0)) (Go.bits .and .u64 a1 31)) (Go.bits .and .u64 a2 31)) (Go.bits .and .u64 a2 31)) = (shl .u64 (IntKind.u64.wrap (a0)) (Go.bits .and .u64 a1 31)) then (if t119 = true then (if bt120.2 = true then (if t118 = (shr .u64 (shl .u64 (IntKind.u64.wrap (a0)) (Go.bits .and .u64 a1 31)) (Go.bits .and .u64 a2 31)) then (some (bt120.1 == (shr .u64 (shl .u64 (IntKind.u64.wrap (a0)) (Go.bits .and .u64 a1 31)) (Go.bits .and .u64 a2 31)))) else (some false)) else (some false)) else (some false)) else (if t119 = true then (if bt120.2 = true then (if t118 = (shr .u64 (shl .u64 (IntKind.u64.wrap (a0)) (Go.bits .and .u64 a1 31)) (Go.bits .and .u64 a2 31)) then (some (bt120.1 == (IntKind.u64.wrap ((shr .u64 (shl .u64 (IntKind.u64.wrap (a0)) (Go.bits .and .u64 a1 31)) (Go.bits .and .u64 a2 31)) + 1)))) else (some false)) else (some false)) else (some false)))) = some r := H
        have A10 := Aside0.mk A100
        clear A100
        have c11b0 := eq_true (of_decide_eq_true (by first | (with_reducible assumption) | assumption) : 0 ≤ (Go.bits .and .u64 a1 31))
        have c13b0 := eq_true (of_decide_eq_true (by first | (with_reducible assumption) | assumption) : 0 ≤ (Go.bits .and .u64 a2 31))
        replace H := Option.bind_eq_some_iff.mp H
        obtain ⟨⟨t120, t121⟩, A150, H⟩ := H
        replace H : (if (shl .u64 (shr .u64 (shl .u64 (IntKind.u64.wrap (a0)) (Go.bits .and .u64 a1 31)) (Go.bits .and .u64 a2 31)) (Go.bits .and .u64 a2 31)) = (shl .u64 (IntKind.u64.wrap (a0)) (Go.bits .and .u64 a1 31)) then (if t119 = true then (if t121 = true then (if t118 = (shr .u64 (shl .u64 (IntKind.u64.wrap (a0)) (Go.bits .and .u64 a1 31)) (Go.bits .and .u64 a2 31)) then (some (t120 == (shr .u64 (shl .u64 (IntKind.u64.wrap (a0)) (Go.bits .and .u64 a1 31)) (Go.bits .and .u64 a2 31)))) else (some false)) else (some false)) else (some false)) else (if t119 = true then (if t121 = true then (if t118 = (shr .u64 (shl .u64 (IntKind.u64.wrap (a0)) (Go.bits .and .u64 a1 31)) (Go.bits .and .u64 a2 31)) then (some (t120 == (IntKind.u64.wrap ((shr .u64 (shl .u64 (IntKind.u64.wrap (a0)) (Go.bits .and .u64 a1 31)) (Go.bits .and .u64 a2 31)) + 1)))) else (some false)) else (some false)) else (some false))) = some r := H
        have A15 := Aside0.mk A150
        clear A150
        have c16b0 := eq_true (of_decide_eq_true (by first | (with_reducible assumption) | assumption) : 0 ≤ (Go.bits .and .u64 a1 31))
        obtain ⟨ji17, hji17⟩ : ∃ j_ : Int, (shl .u64 (IntKind.u64.wrap (a0)) (Go.bits .and .u64 a1 31)) = j_ := ⟨_, rfl⟩
        replace H : (if (shl .u64 (shr .u64 (ji17) (Go.bits .and .u64 a2 31)) (Go.bits .and .u64 a2 31)) = (ji17) then (if t119 = true then (if t121 = true then (if t118 = (shr .u64 (ji17) (Go.bits .and .u64 a2 31)) then (some (t120 == (shr .u64 (ji17) (Go.bits .and .u64 a2 31)))) else (some false)) else (some false)) else (some false)) else (if t119 = true then (if t121 = true then (if t118 = (shr .u64 (ji17) (Go.bits .and .u64 a2 31)) then (some (t120 == (IntKind.u64.wrap ((shr .u64 (ji17) (Go.bits .and .u64 a2 31)) + 1)))) else (some false)) else (some false)) else (some false))) = some r := by first | (rw [hji17] at H; exact H) | (simp only [hji17] at H ⊢; exact H)
        (try rw [hji17] at A4)
        (try rw [hji17] at A10)
        (try rw [hji17] at A15)
        have hji17_ : (IntKind.u64.wrap ((IntKind.u64.wrap (a0)) * 2 ^ min (Go.bits .and .u64 a1 31).toNat 64)) = ji17 := hji17
        have hji17z : (Go.bits .and .u64 a1 31) ≤ 64 → (IntKind.u64.wrap ((IntKind.u64.wrap (a0)) * 2 ^ (Go.bits .and .u64 a1 31).toNat)) = ji17 := shl_small hji17
        have c18b0 := eq_true (of_decide_eq_true (by first | (with_reducible assumption) | assumption) : 0 ≤ (Go.bits .and .u64 a2 31))
        obtain ⟨ji19, hji19⟩ : ∃ j_ : Int, (shr .u64 (ji17) (Go.bits .and .u64 a2 31)) = j_ := ⟨_, rfl⟩
        replace H : (if (shl .u64 (ji19) (Go.bits .and .u64 a2 31)) = (ji17) then (if t119 = true then (if t121 = true then (if t118 = (ji19) then (some (t120 == (ji19))) else (some false)) else (some false)) else (some false)) else (if t119 = true then (if t121 = true then (if t118 = (ji19) then (some (t120 == (IntKind.u64.wrap ((ji19) + 1)))) else (some false)) else (some false)) else (some false))) = some r := by first | (rw [hji19] at H; exact H) | (simp only [hji19] at H ⊢; exact H)
        (try rw [hji19] at A4)
        (try rw [hji19] at A10)
        (try rw [hji19] at A15)
        have hji19_ : ((ji17) / 2 ^ min (Go.bits .and .u64 a2 31).toNat 64) = ji19 := hji19
        have hji19z : (Go.bits .and .u64 a2 31) ≤ 64 → ((ji17) / 2 ^ (Go.bits .and .u64 a2 31).toNat) = ji19 := shr_small hji19
        have c20b0 := eq_true (of_decide_eq_true (by first | (with_reducible assumption) | assumption) : 0 ≤ (Go.bits .and .u64 a2 31))
        obtain ⟨ji21, hji21⟩ : ∃ j_ : Int, (shl .u64 (ji19) (Go.bits .and .u64 a2 31)) = j_ := ⟨_, rfl⟩
        replace H : (if (ji21) = (ji17) then (if t119 = true then (if t121 = true then (if t118 = (ji19) then (some (t120 == (ji19))) else (some false)) else (some false)) else (some false)) else (if t119 = true then (if t121 = true then (if t118 = (ji19) then (some (t120 == (IntKind.u64.wrap ((ji19) + 1)))) else (some false)) else (some false)) else (some false))) = some r := by first | (rw [hji21] at H; exact H) | (simp only [hji21] at H ⊢; exact H)
        (try rw [hji21] at A4)
        (try rw [hji21] at A10)
        (try rw [hji21] at A15)
        have hji21_ : (IntKind.u64.wrap ((ji19) * 2 ^ min (Go.bits .and .u64 a2 31).toNat 64)) = ji21 := hji21
        have hji21z : (Go.bits .and .u64 a2 31) ≤ 64 → (IntKind.u64.wrap ((ji19) * 2 ^ (Go.bits .and .u64 a2 31).toNat)) = ji21 := shl_small hji21
        have c22b0 := eq_true (of_decide_eq_true (by first | (with_reducible assumption) | assumption) : 0 ≤ (Go.bits .and .u64 a1 31))
        by_cases c24 : (ji21) = (ji17)
        · rw [if_pos c24] at H
          have c24b0 : ((ji21) == (ji17)) = true := beq_iff_eq.mpr c24
          have c24b1 : ((ji21) != (ji17)) = false := bne_eq_false_iff_eq.mpr c24
          clear c24
          by_cases c25 : t119 = true
          · subst c25
            have H1 : (if t121 = true then (if t118 = (ji19) then (some (t120 == (ji19))) else (some false)) else (some false)) = some r := by rw [if_pos rfl] at H; exact H
            clear H
            have H := H1
            clear H1
            by_cases c26 : t121 = true
            · subst c26
              have H1 : (if t118 = (ji19) then (some (t120 == (ji19))) else (some false)) = some r := by rw [if_pos rfl] at H; exact H
              clear H
              have H := H1
              clear H1
              by_cases c27 : t118 = (ji19)
              · rw [if_pos c27] at H
                have c27b0 : (t118 == (ji19)) = true := beq_iff_eq.mpr c27
                have c27b1 : (t118 != (ji19)) = false := bne_eq_false_iff_eq.mpr c27
                clear c27
                obtain rfl := Option.some.inj H
                go_enter Try.func5, Try.ntmps5
                go_wp2_with (first | ((with_reducible refine gate_callee (f := 11) rfl ?_); refine goesL_ (some 13) rfl rfl Try.func11 (by kernel_rfl) rfl #[] rfl (by (try simp only [List.map_toArray, List.map_cons, List.map_nil]); first | done | rfl | (simp only [List.length_drop, List.length_take]; rfl)) ?_; (with_reducible refine (weighbridgelaw01_fit.calls k  true _ A4.out).mono ?_); rintro e w' ⟨rfl, ⟨nd, rfl⟩⟩; refine ⟨_, rfl, ?_⟩) | ((with_reducible refine gate_callee (f := 12) rfl ?_); refine goesL_ (some 26) rfl rfl Try.func12 (by kernel_rfl) rfl #[.int .u64 (IntKind.u64.wrap (a0)), .int .u64 ji7, .int .u64 ji9] rfl (by (try simp only [List.map_toArray, List.map_cons, List.map_nil]); first | done | (simp only [hji7, hji9]; rfl) | rfl | (simp only [List.length_drop, List.length_take]; rfl)) ?_; (with_reducible refine (arith_Down.calls k (IntKind.u64.wrap (a0)) ji7 ji9 t118 true _ A10.out).mono ?_); rintro e w' ⟨rfl, ⟨nd, rfl⟩⟩; refine ⟨_, rfl, ?_⟩) | ((with_reducible refine gate_callee (f := 14) rfl ?_); refine goesL_ (some 36) rfl rfl Try.func14 (by kernel_rfl) rfl #[.int .u64 (IntKind.u64.wrap (a0)), .int .u64 ji7, .int .u64 ji9] rfl (by (try simp only [List.map_toArray, List.map_cons, List.map_nil]); first | done | (simp only [hji7, hji9]; rfl) | rfl | (simp only [List.length_drop, List.length_take]; rfl)) ?_; (with_reducible refine (arith_Up.calls k (IntKind.u64.wrap (a0)) ji7 ji9 t120 true _ A15.out).mono ?_); rintro e w' ⟨rfl, ⟨nd, rfl⟩⟩; refine ⟨_, rfl, ?_⟩))
                go_ret
                exact ⟨by first | rfl | (simp; done) | (simp only [← hji7, ← hji9, ← hji17, ← hji19, ← hji21] <;> (first | rfl | simp)) | (simp [*]; done), by repeat (first | exact Drawn0.refl _ | apply Drawn0.step)⟩
              · rw [if_neg c27] at H
                have c27b0 : (t118 == (ji19)) = false := beq_eq_false_iff_ne.mpr c27
                have c27b1 : (t118 != (ji19)) = true := bne_iff_ne.mpr c27
                obtain rfl := Option.some.inj H
                go_enter Try.func5, Try.ntmps5
                go_wp2_with (first | ((with_reducible refine gate_callee (f := 11) rfl ?_); refine goesL_ (some 13) rfl rfl Try.func11 (by kernel_rfl) rfl #[] rfl (by (try simp only [List.map_toArray, List.map_cons, List.map_nil]); first | done | rfl | (simp only [List.length_drop, List.length_take]; rfl)) ?_; (with_reducible refine (weighbridgelaw01_fit.calls k  true _ A4.out).mono ?_); rintro e w' ⟨rfl, ⟨nd, rfl⟩⟩; refine ⟨_, rfl, ?_⟩) | ((with_reducible refine gate_callee (f := 12) rfl ?_); refine goesL_ (some 26) rfl rfl Try.func12 (by kernel_rfl) rfl #[.int .u64 (IntKind.u64.wrap (a0)), .int .u64 ji7, .int .u64 ji9] rfl (by (try simp only [List.map_toArray, List.map_cons, List.map_nil]); first | done | (simp only [hji7, hji9]; rfl) | rfl | (simp only [List.length_drop, List.length_take]; rfl)) ?_; (with_reducible refine (arith_Down.calls k (IntKind.u64.wrap (a0)) ji7 ji9 t118 true _ A10.out).mono ?_); rintro e w' ⟨rfl, ⟨nd, rfl⟩⟩; refine ⟨_, rfl, ?_⟩) | ((with_reducible refine gate_callee (f := 14) rfl ?_); refine goesL_ (some 36) rfl rfl Try.func14 (by kernel_rfl) rfl #[.int .u64 (IntKind.u64.wrap (a0)), .int .u64 ji7, .int .u64 ji9] rfl (by (try simp only [List.map_toArray, List.map_cons, List.map_nil]); first | done | (simp only [hji7, hji9]; rfl) | rfl | (simp only [List.length_drop, List.length_take]; rfl)) ?_; (with_reducible refine (arith_Up.calls k (IntKind.u64.wrap (a0)) ji7 ji9 t120 true _ A15.out).mono ?_); rintro e w' ⟨rfl, ⟨nd, rfl⟩⟩; refine ⟨_, rfl, ?_⟩))
                go_ret
                exact ⟨by first | rfl | (simp; done) | (simp only [← hji7, ← hji9, ← hji17, ← hji19, ← hji21] <;> (first | rfl | simp)) | (simp [*]; done), by repeat (first | exact Drawn0.refl _ | apply Drawn0.step)⟩
            · replace c26 := Bool.eq_false_iff.mpr c26
              subst c26
              have H1 : (some false) = some r := by rw [if_neg (show ¬ (false = true) by decide)] at H; exact H
              clear H
              have H := H1
              clear H1
              obtain rfl := Option.some.inj H
              go_enter Try.func5, Try.ntmps5
              go_wp2_with (first | ((with_reducible refine gate_callee (f := 11) rfl ?_); refine goesL_ (some 13) rfl rfl Try.func11 (by kernel_rfl) rfl #[] rfl (by (try simp only [List.map_toArray, List.map_cons, List.map_nil]); first | done | rfl | (simp only [List.length_drop, List.length_take]; rfl)) ?_; (with_reducible refine (weighbridgelaw01_fit.calls k  true _ A4.out).mono ?_); rintro e w' ⟨rfl, ⟨nd, rfl⟩⟩; refine ⟨_, rfl, ?_⟩) | ((with_reducible refine gate_callee (f := 12) rfl ?_); refine goesL_ (some 26) rfl rfl Try.func12 (by kernel_rfl) rfl #[.int .u64 (IntKind.u64.wrap (a0)), .int .u64 ji7, .int .u64 ji9] rfl (by (try simp only [List.map_toArray, List.map_cons, List.map_nil]); first | done | (simp only [hji7, hji9]; rfl) | rfl | (simp only [List.length_drop, List.length_take]; rfl)) ?_; (with_reducible refine (arith_Down.calls k (IntKind.u64.wrap (a0)) ji7 ji9 t118 true _ A10.out).mono ?_); rintro e w' ⟨rfl, ⟨nd, rfl⟩⟩; refine ⟨_, rfl, ?_⟩) | ((with_reducible refine gate_callee (f := 14) rfl ?_); refine goesL_ (some 36) rfl rfl Try.func14 (by kernel_rfl) rfl #[.int .u64 (IntKind.u64.wrap (a0)), .int .u64 ji7, .int .u64 ji9] rfl (by (try simp only [List.map_toArray, List.map_cons, List.map_nil]); first | done | (simp only [hji7, hji9]; rfl) | rfl | (simp only [List.length_drop, List.length_take]; rfl)) ?_; (with_reducible refine (arith_Up.calls k (IntKind.u64.wrap (a0)) ji7 ji9 t120 false _ A15.out).mono ?_); rintro e w' ⟨rfl, ⟨nd, rfl⟩⟩; refine ⟨_, rfl, ?_⟩))
              go_ret
              exact ⟨by first | rfl | (simp; done) | (simp only [← hji7, ← hji9, ← hji17, ← hji19, ← hji21] <;> (first | rfl | simp)) | (simp [*]; done), by repeat (first | exact Drawn0.refl _ | apply Drawn0.step)⟩
          · replace c25 := Bool.eq_false_iff.mpr c25
            subst c25
            have H1 : (some false) = some r := by rw [if_neg (show ¬ (false = true) by decide)] at H; exact H
            clear H
            have H := H1
            clear H1
            obtain rfl := Option.some.inj H
            go_enter Try.func5, Try.ntmps5
            go_wp2_with (first | ((with_reducible refine gate_callee (f := 11) rfl ?_); refine goesL_ (some 13) rfl rfl Try.func11 (by kernel_rfl) rfl #[] rfl (by (try simp only [List.map_toArray, List.map_cons, List.map_nil]); first | done | rfl | (simp only [List.length_drop, List.length_take]; rfl)) ?_; (with_reducible refine (weighbridgelaw01_fit.calls k  true _ A4.out).mono ?_); rintro e w' ⟨rfl, ⟨nd, rfl⟩⟩; refine ⟨_, rfl, ?_⟩) | ((with_reducible refine gate_callee (f := 12) rfl ?_); refine goesL_ (some 26) rfl rfl Try.func12 (by kernel_rfl) rfl #[.int .u64 (IntKind.u64.wrap (a0)), .int .u64 ji7, .int .u64 ji9] rfl (by (try simp only [List.map_toArray, List.map_cons, List.map_nil]); first | done | (simp only [hji7, hji9]; rfl) | rfl | (simp only [List.length_drop, List.length_take]; rfl)) ?_; (with_reducible refine (arith_Down.calls k (IntKind.u64.wrap (a0)) ji7 ji9 t118 false _ A10.out).mono ?_); rintro e w' ⟨rfl, ⟨nd, rfl⟩⟩; refine ⟨_, rfl, ?_⟩) | ((with_reducible refine gate_callee (f := 14) rfl ?_); refine goesL_ (some 36) rfl rfl Try.func14 (by kernel_rfl) rfl #[.int .u64 (IntKind.u64.wrap (a0)), .int .u64 ji7, .int .u64 ji9] rfl (by (try simp only [List.map_toArray, List.map_cons, List.map_nil]); first | done | (simp only [hji7, hji9]; rfl) | rfl | (simp only [List.length_drop, List.length_take]; rfl)) ?_; (with_reducible refine (arith_Up.calls k (IntKind.u64.wrap (a0)) ji7 ji9 t120 t121 _ A15.out).mono ?_); rintro e w' ⟨rfl, ⟨nd, rfl⟩⟩; refine ⟨_, rfl, ?_⟩))
            go_ret
            exact ⟨by first | rfl | (simp; done) | (simp only [← hji7, ← hji9, ← hji17, ← hji19, ← hji21] <;> (first | rfl | simp)) | (simp [*]; done), by repeat (first | exact Drawn0.refl _ | apply Drawn0.step)⟩
        · rw [if_neg c24] at H
          have c24b0 : ((ji21) == (ji17)) = false := beq_eq_false_iff_ne.mpr c24
          have c24b1 : ((ji21) != (ji17)) = true := bne_iff_ne.mpr c24
          by_cases c28 : t119 = true
          · subst c28
            have H1 : (if t121 = true then (if t118 = (ji19) then (some (t120 == (IntKind.u64.wrap ((ji19) + 1)))) else (some false)) else (some false)) = some r := by rw [if_pos rfl] at H; exact H
            clear H
            have H := H1
            clear H1
            by_cases c29 : t121 = true
            · subst c29
              have H1 : (if t118 = (ji19) then (some (t120 == (IntKind.u64.wrap ((ji19) + 1)))) else (some false)) = some r := by rw [if_pos rfl] at H; exact H
              clear H
              have H := H1
              clear H1
              by_cases c30 : t118 = (ji19)
              · rw [if_pos c30] at H
                have c30b0 : (t118 == (ji19)) = true := beq_iff_eq.mpr c30
                have c30b1 : (t118 != (ji19)) = false := bne_eq_false_iff_eq.mpr c30
                clear c30
                obtain rfl := Option.some.inj H
                go_enter Try.func5, Try.ntmps5
                go_wp2_with (first | ((with_reducible refine gate_callee (f := 11) rfl ?_); refine goesL_ (some 13) rfl rfl Try.func11 (by kernel_rfl) rfl #[] rfl (by (try simp only [List.map_toArray, List.map_cons, List.map_nil]); first | done | rfl | (simp only [List.length_drop, List.length_take]; rfl)) ?_; (with_reducible refine (weighbridgelaw01_fit.calls k  true _ A4.out).mono ?_); rintro e w' ⟨rfl, ⟨nd, rfl⟩⟩; refine ⟨_, rfl, ?_⟩) | ((with_reducible refine gate_callee (f := 12) rfl ?_); refine goesL_ (some 26) rfl rfl Try.func12 (by kernel_rfl) rfl #[.int .u64 (IntKind.u64.wrap (a0)), .int .u64 ji7, .int .u64 ji9] rfl (by (try simp only [List.map_toArray, List.map_cons, List.map_nil]); first | done | (simp only [hji7, hji9]; rfl) | rfl | (simp only [List.length_drop, List.length_take]; rfl)) ?_; (with_reducible refine (arith_Down.calls k (IntKind.u64.wrap (a0)) ji7 ji9 t118 true _ A10.out).mono ?_); rintro e w' ⟨rfl, ⟨nd, rfl⟩⟩; refine ⟨_, rfl, ?_⟩) | ((with_reducible refine gate_callee (f := 14) rfl ?_); refine goesL_ (some 36) rfl rfl Try.func14 (by kernel_rfl) rfl #[.int .u64 (IntKind.u64.wrap (a0)), .int .u64 ji7, .int .u64 ji9] rfl (by (try simp only [List.map_toArray, List.map_cons, List.map_nil]); first | done | (simp only [hji7, hji9]; rfl) | rfl | (simp only [List.length_drop, List.length_take]; rfl)) ?_; (with_reducible refine (arith_Up.calls k (IntKind.u64.wrap (a0)) ji7 ji9 t120 true _ A15.out).mono ?_); rintro e w' ⟨rfl, ⟨nd, rfl⟩⟩; refine ⟨_, rfl, ?_⟩))
                go_ret
                exact ⟨by first | rfl | (simp; done) | (simp only [← hji7, ← hji9, ← hji17, ← hji19, ← hji21] <;> (first | rfl | simp)) | (simp [*]; done), by repeat (first | exact Drawn0.refl _ | apply Drawn0.step)⟩
              · rw [if_neg c30] at H
                have c30b0 : (t118 == (ji19)) = false := beq_eq_false_iff_ne.mpr c30
                have c30b1 : (t118 != (ji19)) = true := bne_iff_ne.mpr c30
                obtain rfl := Option.some.inj H
                go_enter Try.func5, Try.ntmps5
                go_wp2_with (first | ((with_reducible refine gate_callee (f := 11) rfl ?_); refine goesL_ (some 13) rfl rfl Try.func11 (by kernel_rfl) rfl #[] rfl (by (try simp only [List.map_toArray, List.map_cons, List.map_nil]); first | done | rfl | (simp only [List.length_drop, List.length_take]; rfl)) ?_; (with_reducible refine (weighbridgelaw01_fit.calls k  true _ A4.out).mono ?_); rintro e w' ⟨rfl, ⟨nd, rfl⟩⟩; refine ⟨_, rfl, ?_⟩) | ((with_reducible refine gate_callee (f := 12) rfl ?_); refine goesL_ (some 26) rfl rfl Try.func12 (by kernel_rfl) rfl #[.int .u64 (IntKind.u64.wrap (a0)), .int .u64 ji7, .int .u64 ji9] rfl (by (try simp only [List.map_toArray, List.map_cons, List.map_nil]); first | done | (simp only [hji7, hji9]; rfl) | rfl | (simp only [List.length_drop, List.length_take]; rfl)) ?_; (with_reducible refine (arith_Down.calls k (IntKind.u64.wrap (a0)) ji7 ji9 t118 true _ A10.out).mono ?_); rintro e w' ⟨rfl, ⟨nd, rfl⟩⟩; refine ⟨_, rfl, ?_⟩) | ((with_reducible refine gate_callee (f := 14) rfl ?_); refine goesL_ (some 36) rfl rfl Try.func14 (by kernel_rfl) rfl #[.int .u64 (IntKind.u64.wrap (a0)), .int .u64 ji7, .int .u64 ji9] rfl (by (try simp only [List.map_toArray, List.map_cons, List.map_nil]); first | done | (simp only [hji7, hji9]; rfl) | rfl | (simp only [List.length_drop, List.length_take]; rfl)) ?_; (with_reducible refine (arith_Up.calls k (IntKind.u64.wrap (a0)) ji7 ji9 t120 true _ A15.out).mono ?_); rintro e w' ⟨rfl, ⟨nd, rfl⟩⟩; refine ⟨_, rfl, ?_⟩))
                go_ret
                exact ⟨by first | rfl | (simp; done) | (simp only [← hji7, ← hji9, ← hji17, ← hji19, ← hji21] <;> (first | rfl | simp)) | (simp [*]; done), by repeat (first | exact Drawn0.refl _ | apply Drawn0.step)⟩
            · replace c29 := Bool.eq_false_iff.mpr c29
              subst c29
              have H1 : (some false) = some r := by rw [if_neg (show ¬ (false = true) by decide)] at H; exact H
              clear H
              have H := H1
              clear H1
              obtain rfl := Option.some.inj H
              go_enter Try.func5, Try.ntmps5
              go_wp2_with (first | ((with_reducible refine gate_callee (f := 11) rfl ?_); refine goesL_ (some 13) rfl rfl Try.func11 (by kernel_rfl) rfl #[] rfl (by (try simp only [List.map_toArray, List.map_cons, List.map_nil]); first | done | rfl | (simp only [List.length_drop, List.length_take]; rfl)) ?_; (with_reducible refine (weighbridgelaw01_fit.calls k  true _ A4.out).mono ?_); rintro e w' ⟨rfl, ⟨nd, rfl⟩⟩; refine ⟨_, rfl, ?_⟩) | ((with_reducible refine gate_callee (f := 12) rfl ?_); refine goesL_ (some 26) rfl rfl Try.func12 (by kernel_rfl) rfl #[.int .u64 (IntKind.u64.wrap (a0)), .int .u64 ji7, .int .u64 ji9] rfl (by (try simp only [List.map_toArray, List.map_cons, List.map_nil]); first | done | (simp only [hji7, hji9]; rfl) | rfl | (simp only [List.length_drop, List.length_take]; rfl)) ?_; (with_reducible refine (arith_Down.calls k (IntKind.u64.wrap (a0)) ji7 ji9 t118 true _ A10.out).mono ?_); rintro e w' ⟨rfl, ⟨nd, rfl⟩⟩; refine ⟨_, rfl, ?_⟩) | ((with_reducible refine gate_callee (f := 14) rfl ?_); refine goesL_ (some 36) rfl rfl Try.func14 (by kernel_rfl) rfl #[.int .u64 (IntKind.u64.wrap (a0)), .int .u64 ji7, .int .u64 ji9] rfl (by (try simp only [List.map_toArray, List.map_cons, List.map_nil]); first | done | (simp only [hji7, hji9]; rfl) | rfl | (simp only [List.length_drop, List.length_take]; rfl)) ?_; (with_reducible refine (arith_Up.calls k (IntKind.u64.wrap (a0)) ji7 ji9 t120 false _ A15.out).mono ?_); rintro e w' ⟨rfl, ⟨nd, rfl⟩⟩; refine ⟨_, rfl, ?_⟩))
              go_ret
              exact ⟨by first | rfl | (simp; done) | (simp only [← hji7, ← hji9, ← hji17, ← hji19, ← hji21] <;> (first | rfl | simp)) | (simp [*]; done), by repeat (first | exact Drawn0.refl _ | apply Drawn0.step)⟩
          · replace c28 := Bool.eq_false_iff.mpr c28
            subst c28
            have H1 : (some false) = some r := by rw [if_neg (show ¬ (false = true) by decide)] at H; exact H
            clear H
            have H := H1
            clear H1
            obtain rfl := Option.some.inj H
            go_enter Try.func5, Try.ntmps5
            go_wp2_with (first | ((with_reducible refine gate_callee (f := 11) rfl ?_); refine goesL_ (some 13) rfl rfl Try.func11 (by kernel_rfl) rfl #[] rfl (by (try simp only [List.map_toArray, List.map_cons, List.map_nil]); first | done | rfl | (simp only [List.length_drop, List.length_take]; rfl)) ?_; (with_reducible refine (weighbridgelaw01_fit.calls k  true _ A4.out).mono ?_); rintro e w' ⟨rfl, ⟨nd, rfl⟩⟩; refine ⟨_, rfl, ?_⟩) | ((with_reducible refine gate_callee (f := 12) rfl ?_); refine goesL_ (some 26) rfl rfl Try.func12 (by kernel_rfl) rfl #[.int .u64 (IntKind.u64.wrap (a0)), .int .u64 ji7, .int .u64 ji9] rfl (by (try simp only [List.map_toArray, List.map_cons, List.map_nil]); first | done | (simp only [hji7, hji9]; rfl) | rfl | (simp only [List.length_drop, List.length_take]; rfl)) ?_; (with_reducible refine (arith_Down.calls k (IntKind.u64.wrap (a0)) ji7 ji9 t118 false _ A10.out).mono ?_); rintro e w' ⟨rfl, ⟨nd, rfl⟩⟩; refine ⟨_, rfl, ?_⟩) | ((with_reducible refine gate_callee (f := 14) rfl ?_); refine goesL_ (some 36) rfl rfl Try.func14 (by kernel_rfl) rfl #[.int .u64 (IntKind.u64.wrap (a0)), .int .u64 ji7, .int .u64 ji9] rfl (by (try simp only [List.map_toArray, List.map_cons, List.map_nil]); first | done | (simp only [hji7, hji9]; rfl) | rfl | (simp only [List.length_drop, List.length_take]; rfl)) ?_; (with_reducible refine (arith_Up.calls k (IntKind.u64.wrap (a0)) ji7 ji9 t120 t121 _ A15.out).mono ?_); rintro e w' ⟨rfl, ⟨nd, rfl⟩⟩; refine ⟨_, rfl, ?_⟩))
            go_ret
            exact ⟨by first | rfl | (simp; done) | (simp only [← hji7, ← hji9, ← hji17, ← hji19, ← hji21] <;> (first | rfl | simp)) | (simp [*]; done), by repeat (first | exact Drawn0.refl _ | apply Drawn0.step)⟩
      · rw [if_neg c8] at H
        exact absurd H (by simp)
    · rw [if_neg c6] at H
      exact absurd H (by simp)
  · replace c5 := Bool.eq_false_iff.mpr c5
    subst c5
    have H1 : (some false) = some r := by rw [if_neg (show ¬ (false = true) by decide)] at H; exact H
    clear H
    have H := H1
    clear H1
    obtain rfl := Option.some.inj H
    go_enter Try.func5, Try.ntmps5
    go_wp2_with (first | ((with_reducible refine gate_callee (f := 11) rfl ?_); refine goesL_ (some 13) rfl rfl Try.func11 (by kernel_rfl) rfl #[] rfl (by (try simp only [List.map_toArray, List.map_cons, List.map_nil]); first | done | rfl | (simp only [List.length_drop, List.length_take]; rfl)) ?_; (with_reducible refine (weighbridgelaw01_fit.calls k  false _ A4.out).mono ?_); rintro e w' ⟨rfl, ⟨nd, rfl⟩⟩; refine ⟨_, rfl, ?_⟩))
    go_ret
    exact ⟨by first | rfl | (simp; done) | (simp [*]; done), by repeat (first | exact Drawn0.refl _ | apply Drawn0.step)⟩

/-- THE ONE PURE STATEMENT of weighbridgelaw01_ArithShifts: yours. -/
def weighbridgelaw01_ArithShifts.Pure : Prop := ∀ (a0 : Int) (a1 : Int) (a2 : Int), (Lit.int .u32 a0).wf = true → (Lit.int .u64 a1).wf = true → (Lit.int .u64 a2).wf = true → ∃ k, weighbridgelaw01_ArithShifts.f k a0 a1 a2 = some true
theorem weighbridgelaw01_ArithShifts.walk (P : weighbridgelaw01_ArithShifts.Pure) (a0 : Int) (a1 : Int) (a2 : Int) (w : World) (w0 : (Lit.int .u32 a0).wf = true) (w1 : (Lit.int .u64 a1).wf = true) (w2 : (Lit.int .u64 a2).wf = true) :
    Calls Try.prog 5 #[.int .u32 a0, .int .u64 a1, .int .u64 a2] w fun e w' => e = .returned (.bool true) ∧ Below w.heap.size w w' := by
  obtain ⟨k, h⟩ := P a0 a1 a2 w0 w1 w2
  refine (weighbridgelaw01_ArithShifts.calls k a0 a1 a2 true w h).mono ?_
  rintro e w' ⟨rfl, hd⟩
  exact ⟨rfl, hd.below⟩

end Go.Proofs.Ytebgkamefapfcaa.QArithShifts
