-- Laid by a program of this session (wip/myprint.py, over the kit's print.py): a walk of the code and what it computes.
import Derived.Test.YtebgkamefapfcaaQArithPartsx0
import Derived.Test.YtebgkamefapfcaaQArithPartsx1
namespace Go.Proofs.Ytebgkamefapfcaa.QArithParts
open Go.RowKit Go.Proofs.YtebgkamefapfcaaW.PrintWords Go.Proofs.YtebgkamefapfcaaW.PrintLast Go.Proofs.YtebgkamefapfcaaW.PrintMore
attribute [local go_sem] max2_int min2_int max_two min_two max_three min_three max_four min_four   -- for this text's walks alone
set_option linter.unusedVariables false
set_option linter.unusedSimpArgs false

/-! ### arith_Up: function 14 -/
def arith_Up.j0 : Nat → Int → Int → Bool → Option (Int × Bool)
  | 0, _, _, _ => none
  | k + 1, x8, x9, x28 => if x28 = true then (some (0, false)) else (if x9 > 0 then (some (IntKind.u64.wrap (x8 + 1), true)) else (some (x8, true)))
def arith_Up.f (k : Nat) (a0 : Int) (a1 : Int) (a2 : Int) : Option (Int × Bool) := (arith_divide.f k a0 a1 a2).bind fun bt110 => (if bt110.2.2 = true then (if bt110.2.1 > 0 then (arith_Up.j0 k bt110.1 bt110.2.1 (bt110.1 == 18446744073709551615)) else (arith_Up.j0 k bt110.1 bt110.2.1 false)) else (arith_Up.j0 k bt110.1 bt110.2.1 true))
theorem arith_Up.mono_l : ∀ k, (∀ y0 y1 y2, LeO (arith_Up.j0 k y0 y1 y2) (arith_Up.j0 (k + 1) y0 y1 y2))
  | 0 => fun _ _ _ r h => by simp [arith_Up.j0] at h
  | k + 1 => by
    have ih0 := arith_Up.mono_l k
    · intro y0 y1 y2
      unfold arith_Up.j0
      repeat' first
      | (with_reducible exact ih0 _ _ _)
      | (with_reducible exact arith_divide.mono _ _ _ _)
      | (with_reducible exact LeO.refl _)
      | (with_reducible exact LeO.none _)
      | (with_reducible refine LeO.ite ?_ ?_)
      | (with_reducible refine LeO.bind ?_ (fun _ => ?_))
      | exact ih0 _ _ _
      | exact arith_divide.mono _ _ _ _
      | exact LeO.none _
      | refine LeO.ite ?_ ?_
      | refine LeO.bind ?_ (fun _ => ?_)
theorem arith_Up.mono : ∀ a0 a1 a2 k, LeO (arith_Up.f k a0 a1 a2) (arith_Up.f (k + 1) a0 a1 a2) := by
  intro a0 a1 a2 k
  have ih0 := arith_Up.mono_l k
  unfold arith_Up.f
  repeat' first
      | (with_reducible exact ih0 _ _ _)
      | (with_reducible exact arith_divide.mono _ _ _ _)
      | (with_reducible exact LeO.refl _)
      | (with_reducible exact LeO.none _)
      | (with_reducible refine LeO.ite ?_ ?_)
      | (with_reducible refine LeO.bind ?_ (fun _ => ?_))
      | exact ih0 _ _ _
      | exact arith_divide.mono _ _ _ _
      | exact LeO.none _
      | refine LeO.ite ?_ ?_
      | refine LeO.bind ?_ (fun _ => ?_)
set_option maxHeartbeats 8000000 in
set_option maxRecDepth 100000 in
theorem arith_Up.calls (k : Nat) (a0 : Int) (a1 : Int) (a2 : Int) (r1 : Int) (r2 : Bool) (w : World) (h : arith_Up.f k a0 a1 a2 = some (r1, r2)) :
    Calls Try.prog 14 #[.int .u64 a0, .int .u64 a1, .int .u64 a2] w fun e w' => e = .returned (.tuple #[.int .u64 r1, .bool r2]) ∧ Drawn0 w w' := by
  have H : ((arith_divide.f k a0 a1 a2).bind fun bt110 => (if bt110.2.2 = true then (if bt110.2.1 > 0 then (arith_Up.j0 k bt110.1 bt110.2.1 (bt110.1 == 18446744073709551615)) else (arith_Up.j0 k bt110.1 bt110.2.1 false)) else (arith_Up.j0 k bt110.1 bt110.2.1 true))) = some (r1, r2) := h
  clear h
  replace H := Option.bind_eq_some_iff.mp H
  obtain ⟨⟨t110, t111, t112⟩, A40, H⟩ := H
  replace H : (if t112 = true then (if t111 > 0 then (arith_Up.j0 k t110 t111 (t110 == 18446744073709551615)) else (arith_Up.j0 k t110 t111 false)) else (arith_Up.j0 k t110 t111 true)) = some (r1, r2) := H
  have A4 := Aside0.mk A40
  clear A40
  have HC5 := Aside0.mk H
  clear H
  go_enter Try.func14, Try.ntmps14
  go_upto_region 2 with (first | ((with_reducible refine gate_callee (f := 26) rfl ?_); refine goesL_ (some 15) rfl rfl Try.func26 (by kernel_rfl) rfl #[.int .u64 a0, .int .u64 a1, .int .u64 a2] rfl (by (try simp only [List.map_toArray, List.map_cons, List.map_nil]); first | done | rfl | (simp only [List.length_drop, List.length_take]; rfl)) ?_; (with_reducible refine (arith_divide.calls k a0 a1 a2 t110 t111 t112 _ A4.out).mono ?_); rintro e w' ⟨rfl, ⟨nd, rfl⟩⟩; refine ⟨_, rfl, ?_⟩))
  (try simp only [Act.put, List.setIfInBounds_toArray, List.set_cons_zero, List.set_cons_succ])
  go_cut [28] (fun v28 wc => ∃ (kq : Nat) (x28_4 : Bool), v28 = .bool x28_4 ∧ Aside0 (arith_Up.j0 kq t110 t111 x28_4 = some (r1, r2)) ∧ Aside0 (kq ≤ k) ∧ Drawn0 w wc)
  case first =>
    have H := HC5.out
    clear HC5
    by_cases c6 : t112 = true
    · subst c6
      have H1 : (if t111 > 0 then (arith_Up.j0 k t110 t111 (t110 == 18446744073709551615)) else (arith_Up.j0 k t110 t111 false)) = some (r1, r2) := by rw [if_pos rfl] at H; exact H
      clear H
      have H := H1
      clear H1
      by_cases c7 : t111 > 0
      · rw [if_pos c7] at H
        have c7b0 : decide (0 < t111) = true := decide_eq_true c7
        clear c7
        (first | rw [c7b0] | (simp only [i64_w, i32_w]; rw [c7b0]) | skip)
        have H' := Aside0.mk H
        clear H
        go_wp2
        go_meet
        case rel => exact ⟨_, ((t110 == 18446744073709551615)), (by first | rfl | (simp; done) | (simp [*]; done)), H', ⟨by first | omega | exact Nat.le_refl _⟩, by repeat (first | exact Drawn0.refl _ | apply Drawn0.step)⟩
      · rw [if_neg c7] at H
        have c7b0 : decide (0 < t111) = false := decide_eq_false c7
        clear c7
        (first | rw [c7b0] | (simp only [i64_w, i32_w]; rw [c7b0]) | skip)
        have H' := Aside0.mk H
        clear H
        go_wp2
        go_meet
        case rel => exact ⟨_, (false), (by first | rfl | (simp; done) | (simp [*]; done)), H', ⟨by first | omega | exact Nat.le_refl _⟩, by repeat (first | exact Drawn0.refl _ | apply Drawn0.step)⟩
    · replace c6 := Bool.eq_false_iff.mpr c6
      subst c6
      have H1 : (arith_Up.j0 k t110 t111 true) = some (r1, r2) := by rw [if_neg (show ¬ (false = true) by decide)] at H; exact H
      clear H
      have H := H1
      clear H1
      have H' := Aside0.mk H
      clear H
      go_wp2
      go_meet
      case rel => exact ⟨_, (true), (by first | rfl | (simp; done) | (simp [*]; done)), H', ⟨by first | omega | exact Nat.le_refl _⟩, by repeat (first | exact Drawn0.refl _ | apply Drawn0.step)⟩
  case rest =>
    clear HC5
    try clear c1
    try clear c2
    try clear p2
    try clear c6
    try clear c7
    try clear c7b0
    obtain ⟨kq, x28_4, rfl, HA, HJ4, ⟨mc4, rfl⟩⟩ := hcut
    cases kq with
    | zero => exact absurd HA.out (by simp [arith_Up.j0])
    | succ kj4 =>
      have H := HA.out
      clear HA
      simp only [arith_Up.j0] at H
      by_cases c8 : x28_4 = true
      · subst c8
        have H1 : (some (0, false)) = some (r1, r2) := by rw [if_pos rfl] at H; exact H
        clear H
        have H := H1
        clear H1
        simp only [Option.some.injEq, Prod.mk.injEq] at H
        obtain ⟨rfl, rfl⟩ := H
        go_wp2
        go_ret2
        exact ⟨by first | rfl | (simp; done) | (simp [*]; done), by repeat (first | exact Drawn0.refl _ | apply Drawn0.step)⟩
      · replace c8 := Bool.eq_false_iff.mpr c8
        subst c8
        have H1 : (if t111 > 0 then (some (IntKind.u64.wrap (t110 + 1), true)) else (some (t110, true))) = some (r1, r2) := by rw [if_neg (show ¬ (false = true) by decide)] at H; exact H
        clear H
        have H := H1
        clear H1
        by_cases c9 : t111 > 0
        · rw [if_pos c9] at H
          have c9b0 : decide (0 < t111) = true := decide_eq_true c9
          clear c9
          simp only [Option.some.injEq, Prod.mk.injEq] at H
          obtain ⟨rfl, rfl⟩ := H
          go_wp2
          go_ret2
          exact ⟨by first | rfl | (simp; done) | (simp [*]; done), by repeat (first | exact Drawn0.refl _ | apply Drawn0.step)⟩
        · rw [if_neg c9] at H
          have c9b0 : decide (0 < t111) = false := decide_eq_false c9
          clear c9
          simp only [Option.some.injEq, Prod.mk.injEq] at H
          obtain ⟨rfl, rfl⟩ := H
          go_wp2
          go_ret2
          exact ⟨by first | rfl | (simp; done) | (simp [*]; done), by repeat (first | exact Drawn0.refl _ | apply Drawn0.step)⟩

/-! ### weighbridgelaw01_fit: function 11 -/
def weighbridgelaw01_fit.f (k : Nat)  : Option (Bool) := (arith_Up.f k 1 1 2).bind fun bt113 => ((arith_Down.f k 9223372036854775808 4 2).bind fun bt115 => (if bt113.1 = 1 then (if bt113.2 = true then (some (!bt115.2)) else (some false)) else (some false)))
theorem weighbridgelaw01_fit.mono : ∀ k, LeO (weighbridgelaw01_fit.f k ) (weighbridgelaw01_fit.f (k + 1) ) := by
  intro  k
  unfold weighbridgelaw01_fit.f
  repeat' first
      | (with_reducible exact arith_Down.mono _ _ _ _)
      | (with_reducible exact arith_Up.mono _ _ _ _)
      | (with_reducible exact LeO.refl _)
      | (with_reducible exact LeO.none _)
      | (with_reducible refine LeO.ite ?_ ?_)
      | (with_reducible refine LeO.bind ?_ (fun _ => ?_))
      | exact arith_Down.mono _ _ _ _
      | exact arith_Up.mono _ _ _ _
      | exact LeO.none _
      | refine LeO.ite ?_ ?_
      | refine LeO.bind ?_ (fun _ => ?_)
set_option maxHeartbeats 8000000 in
set_option maxRecDepth 100000 in
theorem weighbridgelaw01_fit.calls (k : Nat)  (r : Bool) (w : World) (h : weighbridgelaw01_fit.f k  = some r) :
    Calls Try.prog 11 #[] w fun e w' => e = .returned (.bool r) ∧ Drawn0 w w' := by
  have H : ((arith_Up.f k 1 1 2).bind fun bt113 => ((arith_Down.f k 9223372036854775808 4 2).bind fun bt115 => (if bt113.1 = 1 then (if bt113.2 = true then (some (!bt115.2)) else (some false)) else (some false)))) = some r := h
  clear h
  replace H := Option.bind_eq_some_iff.mp H
  obtain ⟨⟨t113, t114⟩, A10, H⟩ := H
  replace H : ((arith_Down.f k 9223372036854775808 4 2).bind fun bt115 => (if t113 = 1 then (if t114 = true then (some (!bt115.2)) else (some false)) else (some false))) = some r := H
  have A1 := Aside0.mk A10
  clear A10
  replace H := Option.bind_eq_some_iff.mp H
  obtain ⟨⟨t115, t116⟩, A20, H⟩ := H
  replace H : (if t113 = 1 then (if t114 = true then (some (!t116)) else (some false)) else (some false)) = some r := H
  have A2 := Aside0.mk A20
  clear A20
  by_cases c3 : t113 = 1
  · rw [if_pos c3] at H
    have c3b0 : (t113 == 1) = true := beq_iff_eq.mpr c3
    have c3b1 : (t113 != 1) = false := bne_eq_false_iff_eq.mpr c3
    clear c3
    by_cases c4 : t114 = true
    · subst c4
      have H1 : (some (!t116)) = some r := by rw [if_pos rfl] at H; exact H
      clear H
      have H := H1
      clear H1
      obtain rfl := Option.some.inj H
      go_enter Try.func11, Try.ntmps11
      go_wp2_with (first | ((with_reducible refine gate_callee (f := 14) rfl ?_); refine goesL_ (some 6) rfl rfl Try.func14 (by kernel_rfl) rfl #[.int .u64 1, .int .u64 1, .int .u64 2] rfl (by (try simp only [List.map_toArray, List.map_cons, List.map_nil]); first | done | rfl | (simp only [List.length_drop, List.length_take]; rfl)) ?_; (with_reducible refine (arith_Up.calls k 1 1 2 t113 true _ A1.out).mono ?_); rintro e w' ⟨rfl, ⟨nd, rfl⟩⟩; refine ⟨_, rfl, ?_⟩) | ((with_reducible refine gate_callee (f := 12) rfl ?_); refine goesL_ (some 10) rfl rfl Try.func12 (by kernel_rfl) rfl #[.int .u64 9223372036854775808, .int .u64 4, .int .u64 2] rfl (by (try simp only [List.map_toArray, List.map_cons, List.map_nil]); first | done | rfl | (simp only [List.length_drop, List.length_take]; rfl)) ?_; (with_reducible refine (arith_Down.calls k 9223372036854775808 4 2 t115 t116 _ A2.out).mono ?_); rintro e w' ⟨rfl, ⟨nd, rfl⟩⟩; refine ⟨_, rfl, ?_⟩))
      go_ret
      exact ⟨by first | rfl | (simp; done) | (simp [*]; done), by repeat (first | exact Drawn0.refl _ | apply Drawn0.step)⟩
    · replace c4 := Bool.eq_false_iff.mpr c4
      subst c4
      have H1 : (some false) = some r := by rw [if_neg (show ¬ (false = true) by decide)] at H; exact H
      clear H
      have H := H1
      clear H1
      obtain rfl := Option.some.inj H
      go_enter Try.func11, Try.ntmps11
      go_wp2_with (first | ((with_reducible refine gate_callee (f := 14) rfl ?_); refine goesL_ (some 6) rfl rfl Try.func14 (by kernel_rfl) rfl #[.int .u64 1, .int .u64 1, .int .u64 2] rfl (by (try simp only [List.map_toArray, List.map_cons, List.map_nil]); first | done | rfl | (simp only [List.length_drop, List.length_take]; rfl)) ?_; (with_reducible refine (arith_Up.calls k 1 1 2 t113 false _ A1.out).mono ?_); rintro e w' ⟨rfl, ⟨nd, rfl⟩⟩; refine ⟨_, rfl, ?_⟩) | ((with_reducible refine gate_callee (f := 12) rfl ?_); refine goesL_ (some 10) rfl rfl Try.func12 (by kernel_rfl) rfl #[.int .u64 9223372036854775808, .int .u64 4, .int .u64 2] rfl (by (try simp only [List.map_toArray, List.map_cons, List.map_nil]); first | done | rfl | (simp only [List.length_drop, List.length_take]; rfl)) ?_; (with_reducible refine (arith_Down.calls k 9223372036854775808 4 2 t115 t116 _ A2.out).mono ?_); rintro e w' ⟨rfl, ⟨nd, rfl⟩⟩; refine ⟨_, rfl, ?_⟩))
      go_ret
      exact ⟨by first | rfl | (simp; done) | (simp [*]; done), by repeat (first | exact Drawn0.refl _ | apply Drawn0.step)⟩
  · rw [if_neg c3] at H
    have c3b0 : (t113 == 1) = false := beq_eq_false_iff_ne.mpr c3
    have c3b1 : (t113 != 1) = true := bne_iff_ne.mpr c3
    obtain rfl := Option.some.inj H
    go_enter Try.func11, Try.ntmps11
    go_wp2_with (first | ((with_reducible refine gate_callee (f := 14) rfl ?_); refine goesL_ (some 6) rfl rfl Try.func14 (by kernel_rfl) rfl #[.int .u64 1, .int .u64 1, .int .u64 2] rfl (by (try simp only [List.map_toArray, List.map_cons, List.map_nil]); first | done | rfl | (simp only [List.length_drop, List.length_take]; rfl)) ?_; (with_reducible refine (arith_Up.calls k 1 1 2 t113 t114 _ A1.out).mono ?_); rintro e w' ⟨rfl, ⟨nd, rfl⟩⟩; refine ⟨_, rfl, ?_⟩) | ((with_reducible refine gate_callee (f := 12) rfl ?_); refine goesL_ (some 10) rfl rfl Try.func12 (by kernel_rfl) rfl #[.int .u64 9223372036854775808, .int .u64 4, .int .u64 2] rfl (by (try simp only [List.map_toArray, List.map_cons, List.map_nil]); first | done | rfl | (simp only [List.length_drop, List.length_take]; rfl)) ?_; (with_reducible refine (arith_Down.calls k 9223372036854775808 4 2 t115 t116 _ A2.out).mono ?_); rintro e w' ⟨rfl, ⟨nd, rfl⟩⟩; refine ⟨_, rfl, ?_⟩))
    go_ret
    exact ⟨by first | rfl | (simp; done) | (simp [*]; done), by repeat (first | exact Drawn0.refl _ | apply Drawn0.step)⟩

/-! ### weighbridgelaw01_ArithParts: function 4 -/
def weighbridgelaw01_ArithParts.f (k : Nat) (a0 : Int) (a1 : Int) (a2 : Int) : Option (Bool) := (weighbridgelaw01_fit.f k).bind fun t117 => (if t117 = true then ((arith_Down.f k (a0 / 4294967296) (a1 / 4294967296) (IntKind.u64.wrap ((IntKind.u64.wrap (a2)) + 1))).bind fun bt118 => ((arith_Up.f k (a0 / 4294967296) (a1 / 4294967296) (IntKind.u64.wrap ((IntKind.u64.wrap (a2)) + 1))).bind fun bt120 => ((arith_Down.f k (a0 / 4294967296) (a1 / 4294967296) (mx (a1 / 4294967296) 1)).bind fun bt122 => (if bt118.2 = true then (if bt120.2 = true then (if (IntKind.u64.wrap (bt118.1 * (IntKind.u64.wrap ((IntKind.u64.wrap (a2)) + 1)))) ≤ (IntKind.u64.wrap ((a0 / 4294967296) * (a1 / 4294967296))) then (if (IntKind.u64.wrap ((IntKind.u64.wrap ((a0 / 4294967296) * (a1 / 4294967296))) - (IntKind.u64.wrap (bt118.1 * (IntKind.u64.wrap ((IntKind.u64.wrap (a2)) + 1)))))) < (IntKind.u64.wrap ((IntKind.u64.wrap (a2)) + 1)) then (if ((bt120.1 == bt118.1) == ((IntKind.u64.wrap (bt118.1 * (IntKind.u64.wrap ((IntKind.u64.wrap (a2)) + 1)))) == (IntKind.u64.wrap ((a0 / 4294967296) * (a1 / 4294967296))))) = true then (if bt122.2 = true then (if (a1 / 4294967296) = 0 then (some true) else (some (bt122.1 == (a0 / 4294967296)))) else (some false)) else (some false)) else (some false)) else (some false)) else (some false)) else (some false))))) else (some false))
theorem weighbridgelaw01_ArithParts.mono : ∀ a0 a1 a2 k, LeO (weighbridgelaw01_ArithParts.f k a0 a1 a2) (weighbridgelaw01_ArithParts.f (k + 1) a0 a1 a2) := by
  intro a0 a1 a2 k
  unfold weighbridgelaw01_ArithParts.f
  repeat' first
      | (with_reducible exact arith_Down.mono _ _ _ _)
      | (with_reducible exact arith_Up.mono _ _ _ _)
      | (with_reducible exact weighbridgelaw01_fit.mono _)
      | (with_reducible exact LeO.refl _)
      | (with_reducible exact LeO.none _)
      | (with_reducible refine LeO.ite ?_ ?_)
      | (with_reducible refine LeO.bind ?_ (fun _ => ?_))
      | exact arith_Down.mono _ _ _ _
      | exact arith_Up.mono _ _ _ _
      | exact weighbridgelaw01_fit.mono _
      | exact LeO.none _
      | refine LeO.ite ?_ ?_
      | refine LeO.bind ?_ (fun _ => ?_)
set_option maxHeartbeats 8000000 in
set_option maxRecDepth 100000 in
theorem weighbridgelaw01_ArithParts.calls (k : Nat) (a0 : Int) (a1 : Int) (a2 : Int) (r : Bool) (w : World) (h : weighbridgelaw01_ArithParts.f k a0 a1 a2 = some r) :
    Calls Try.prog 4 #[.int .u64 a0, .int .u64 a1, .int .u32 a2] w fun e w' => e = .returned (.bool r) ∧ Below w.heap.size w w' := by
  have HB := Aside0.mk (Below.refl w.heap.size w)
  have H : ((weighbridgelaw01_fit.f k).bind fun t117 => (if t117 = true then ((arith_Down.f k (a0 / 4294967296) (a1 / 4294967296) (IntKind.u64.wrap ((IntKind.u64.wrap (a2)) + 1))).bind fun bt118 => ((arith_Up.f k (a0 / 4294967296) (a1 / 4294967296) (IntKind.u64.wrap ((IntKind.u64.wrap (a2)) + 1))).bind fun bt120 => ((arith_Down.f k (a0 / 4294967296) (a1 / 4294967296) (mx (a1 / 4294967296) 1)).bind fun bt122 => (if bt118.2 = true then (if bt120.2 = true then (if (IntKind.u64.wrap (bt118.1 * (IntKind.u64.wrap ((IntKind.u64.wrap (a2)) + 1)))) ≤ (IntKind.u64.wrap ((a0 / 4294967296) * (a1 / 4294967296))) then (if (IntKind.u64.wrap ((IntKind.u64.wrap ((a0 / 4294967296) * (a1 / 4294967296))) - (IntKind.u64.wrap (bt118.1 * (IntKind.u64.wrap ((IntKind.u64.wrap (a2)) + 1)))))) < (IntKind.u64.wrap ((IntKind.u64.wrap (a2)) + 1)) then (if ((bt120.1 == bt118.1) == ((IntKind.u64.wrap (bt118.1 * (IntKind.u64.wrap ((IntKind.u64.wrap (a2)) + 1)))) == (IntKind.u64.wrap ((a0 / 4294967296) * (a1 / 4294967296))))) = true then (if bt122.2 = true then (if (a1 / 4294967296) = 0 then (some true) else (some (bt122.1 == (a0 / 4294967296)))) else (some false)) else (some false)) else (some false)) else (some false)) else (some false)) else (some false))))) else (some false))) = some r := h
  clear h
  replace H := Option.bind_eq_some_iff.mp H
  obtain ⟨t117, A40, H⟩ := H
  replace H : (if t117 = true then ((arith_Down.f k (a0 / 4294967296) (a1 / 4294967296) (IntKind.u64.wrap ((IntKind.u64.wrap (a2)) + 1))).bind fun bt118 => ((arith_Up.f k (a0 / 4294967296) (a1 / 4294967296) (IntKind.u64.wrap ((IntKind.u64.wrap (a2)) + 1))).bind fun bt120 => ((arith_Down.f k (a0 / 4294967296) (a1 / 4294967296) (mx (a1 / 4294967296) 1)).bind fun bt122 => (if bt118.2 = true then (if bt120.2 = true then (if (IntKind.u64.wrap (bt118.1 * (IntKind.u64.wrap ((IntKind.u64.wrap (a2)) + 1)))) ≤ (IntKind.u64.wrap ((a0 / 4294967296) * (a1 / 4294967296))) then (if (IntKind.u64.wrap ((IntKind.u64.wrap ((a0 / 4294967296) * (a1 / 4294967296))) - (IntKind.u64.wrap (bt118.1 * (IntKind.u64.wrap ((IntKind.u64.wrap (a2)) + 1)))))) < (IntKind.u64.wrap ((IntKind.u64.wrap (a2)) + 1)) then (if ((bt120.1 == bt118.1) == ((IntKind.u64.wrap (bt118.1 * (IntKind.u64.wrap ((IntKind.u64.wrap (a2)) + 1)))) == (IntKind.u64.wrap ((a0 / 4294967296) * (a1 / 4294967296))))) = true then (if bt122.2 = true then (if (a1 / 4294967296) = 0 then (some true) else (some (bt122.1 == (a0 / 4294967296)))) else (some false)) else (some false)) else (some false)) else (some false)) else (some false)) else (some false))))) else (some false)) = some r := H
  have A4 := Aside0.mk A40
  clear A40
  by_cases c5 : t117 = true
  · subst c5
    have H1 : ((arith_Down.f k (a0 / 4294967296) (a1 / 4294967296) (IntKind.u64.wrap ((IntKind.u64.wrap (a2)) + 1))).bind fun bt118 => ((arith_Up.f k (a0 / 4294967296) (a1 / 4294967296) (IntKind.u64.wrap ((IntKind.u64.wrap (a2)) + 1))).bind fun bt120 => ((arith_Down.f k (a0 / 4294967296) (a1 / 4294967296) (mx (a1 / 4294967296) 1)).bind fun bt122 => (if bt118.2 = true then (if bt120.2 = true then (if (IntKind.u64.wrap (bt118.1 * (IntKind.u64.wrap ((IntKind.u64.wrap (a2)) + 1)))) ≤ (IntKind.u64.wrap ((a0 / 4294967296) * (a1 / 4294967296))) then (if (IntKind.u64.wrap ((IntKind.u64.wrap ((a0 / 4294967296) * (a1 / 4294967296))) - (IntKind.u64.wrap (bt118.1 * (IntKind.u64.wrap ((IntKind.u64.wrap (a2)) + 1)))))) < (IntKind.u64.wrap ((IntKind.u64.wrap (a2)) + 1)) then (if ((bt120.1 == bt118.1) == ((IntKind.u64.wrap (bt118.1 * (IntKind.u64.wrap ((IntKind.u64.wrap (a2)) + 1)))) == (IntKind.u64.wrap ((a0 / 4294967296) * (a1 / 4294967296))))) = true then (if bt122.2 = true then (if (a1 / 4294967296) = 0 then (some true) else (some (bt122.1 == (a0 / 4294967296)))) else (some false)) else (some false)) else (some false)) else (some false)) else (some false)) else (some false))))) = some r := by rw [if_pos rfl] at H; exact H
    clear H
    have H := H1
    clear H1
    replace H := Option.bind_eq_some_iff.mp H
    obtain ⟨⟨t118, t119⟩, A60, H⟩ := H
    replace H : ((arith_Up.f k (a0 / 4294967296) (a1 / 4294967296) (IntKind.u64.wrap ((IntKind.u64.wrap (a2)) + 1))).bind fun bt120 => ((arith_Down.f k (a0 / 4294967296) (a1 / 4294967296) (mx (a1 / 4294967296) 1)).bind fun bt122 => (if t119 = true then (if bt120.2 = true then (if (IntKind.u64.wrap (t118 * (IntKind.u64.wrap ((IntKind.u64.wrap (a2)) + 1)))) ≤ (IntKind.u64.wrap ((a0 / 4294967296) * (a1 / 4294967296))) then (if (IntKind.u64.wrap ((IntKind.u64.wrap ((a0 / 4294967296) * (a1 / 4294967296))) - (IntKind.u64.wrap (t118 * (IntKind.u64.wrap ((IntKind.u64.wrap (a2)) + 1)))))) < (IntKind.u64.wrap ((IntKind.u64.wrap (a2)) + 1)) then (if ((bt120.1 == t118) == ((IntKind.u64.wrap (t118 * (IntKind.u64.wrap ((IntKind.u64.wrap (a2)) + 1)))) == (IntKind.u64.wrap ((a0 / 4294967296) * (a1 / 4294967296))))) = true then (if bt122.2 = true then (if (a1 / 4294967296) = 0 then (some true) else (some (bt122.1 == (a0 / 4294967296)))) else (some false)) else (some false)) else (some false)) else (some false)) else (some false)) else (some false)))) = some r := H
    have A6 := Aside0.mk A60
    clear A60
    replace H := Option.bind_eq_some_iff.mp H
    obtain ⟨⟨t120, t121⟩, A70, H⟩ := H
    replace H : ((arith_Down.f k (a0 / 4294967296) (a1 / 4294967296) (mx (a1 / 4294967296) 1)).bind fun bt122 => (if t119 = true then (if t121 = true then (if (IntKind.u64.wrap (t118 * (IntKind.u64.wrap ((IntKind.u64.wrap (a2)) + 1)))) ≤ (IntKind.u64.wrap ((a0 / 4294967296) * (a1 / 4294967296))) then (if (IntKind.u64.wrap ((IntKind.u64.wrap ((a0 / 4294967296) * (a1 / 4294967296))) - (IntKind.u64.wrap (t118 * (IntKind.u64.wrap ((IntKind.u64.wrap (a2)) + 1)))))) < (IntKind.u64.wrap ((IntKind.u64.wrap (a2)) + 1)) then (if ((t120 == t118) == ((IntKind.u64.wrap (t118 * (IntKind.u64.wrap ((IntKind.u64.wrap (a2)) + 1)))) == (IntKind.u64.wrap ((a0 / 4294967296) * (a1 / 4294967296))))) = true then (if bt122.2 = true then (if (a1 / 4294967296) = 0 then (some true) else (some (bt122.1 == (a0 / 4294967296)))) else (some false)) else (some false)) else (some false)) else (some false)) else (some false)) else (some false))) = some r := H
    have A7 := Aside0.mk A70
    clear A70
    obtain ⟨ji8, hji8⟩ : ∃ j_ : Int, (mx (a1 / 4294967296) 1) = j_ := ⟨_, rfl⟩
    replace H : ((arith_Down.f k (a0 / 4294967296) (a1 / 4294967296) (ji8)).bind fun bt122 => (if t119 = true then (if t121 = true then (if (IntKind.u64.wrap (t118 * (IntKind.u64.wrap ((IntKind.u64.wrap (a2)) + 1)))) ≤ (IntKind.u64.wrap ((a0 / 4294967296) * (a1 / 4294967296))) then (if (IntKind.u64.wrap ((IntKind.u64.wrap ((a0 / 4294967296) * (a1 / 4294967296))) - (IntKind.u64.wrap (t118 * (IntKind.u64.wrap ((IntKind.u64.wrap (a2)) + 1)))))) < (IntKind.u64.wrap ((IntKind.u64.wrap (a2)) + 1)) then (if ((t120 == t118) == ((IntKind.u64.wrap (t118 * (IntKind.u64.wrap ((IntKind.u64.wrap (a2)) + 1)))) == (IntKind.u64.wrap ((a0 / 4294967296) * (a1 / 4294967296))))) = true then (if bt122.2 = true then (if (a1 / 4294967296) = 0 then (some true) else (some (bt122.1 == (a0 / 4294967296)))) else (some false)) else (some false)) else (some false)) else (some false)) else (some false)) else (some false))) = some r := by first | (rw [hji8] at H; exact H) | (simp only [hji8] at H ⊢; exact H)
    (try rw [hji8] at A4)
    (try rw [hji8] at A6)
    (try rw [hji8] at A7)
    (try (have hji8l : 1 ≤ ji8 := by (rw [← hji8]; unfold mx; (repeat' split) <;> omega)))
    (try (have hji8m : 0 ≤ ji8 := by omega))
    have hji8_ : (if (a1 / 4294967296) < 1 then 1 else (a1 / 4294967296)) = ji8 := hji8
    replace H := Option.bind_eq_some_iff.mp H
    obtain ⟨⟨t122, t123⟩, A90, H⟩ := H
    replace H : (if t119 = true then (if t121 = true then (if (IntKind.u64.wrap (t118 * (IntKind.u64.wrap ((IntKind.u64.wrap (a2)) + 1)))) ≤ (IntKind.u64.wrap ((a0 / 4294967296) * (a1 / 4294967296))) then (if (IntKind.u64.wrap ((IntKind.u64.wrap ((a0 / 4294967296) * (a1 / 4294967296))) - (IntKind.u64.wrap (t118 * (IntKind.u64.wrap ((IntKind.u64.wrap (a2)) + 1)))))) < (IntKind.u64.wrap ((IntKind.u64.wrap (a2)) + 1)) then (if ((t120 == t118) == ((IntKind.u64.wrap (t118 * (IntKind.u64.wrap ((IntKind.u64.wrap (a2)) + 1)))) == (IntKind.u64.wrap ((a0 / 4294967296) * (a1 / 4294967296))))) = true then (if t123 = true then (if (a1 / 4294967296) = 0 then (some true) else (some (t122 == (a0 / 4294967296)))) else (some false)) else (some false)) else (some false)) else (some false)) else (some false)) else (some false)) = some r := H
    have A9 := Aside0.mk A90
    clear A90
    by_cases c10 : t119 = true
    · subst c10
      have H1 : (if t121 = true then (if (IntKind.u64.wrap (t118 * (IntKind.u64.wrap ((IntKind.u64.wrap (a2)) + 1)))) ≤ (IntKind.u64.wrap ((a0 / 4294967296) * (a1 / 4294967296))) then (if (IntKind.u64.wrap ((IntKind.u64.wrap ((a0 / 4294967296) * (a1 / 4294967296))) - (IntKind.u64.wrap (t118 * (IntKind.u64.wrap ((IntKind.u64.wrap (a2)) + 1)))))) < (IntKind.u64.wrap ((IntKind.u64.wrap (a2)) + 1)) then (if ((t120 == t118) == ((IntKind.u64.wrap (t118 * (IntKind.u64.wrap ((IntKind.u64.wrap (a2)) + 1)))) == (IntKind.u64.wrap ((a0 / 4294967296) * (a1 / 4294967296))))) = true then (if t123 = true then (if (a1 / 4294967296) = 0 then (some true) else (some (t122 == (a0 / 4294967296)))) else (some false)) else (some false)) else (some false)) else (some false)) else (some false)) = some r := by rw [if_pos rfl] at H; exact H
      clear H
      have H := H1
      clear H1
      by_cases c11 : t121 = true
      · subst c11
        have H1 : (if (IntKind.u64.wrap (t118 * (IntKind.u64.wrap ((IntKind.u64.wrap (a2)) + 1)))) ≤ (IntKind.u64.wrap ((a0 / 4294967296) * (a1 / 4294967296))) then (if (IntKind.u64.wrap ((IntKind.u64.wrap ((a0 / 4294967296) * (a1 / 4294967296))) - (IntKind.u64.wrap (t118 * (IntKind.u64.wrap ((IntKind.u64.wrap (a2)) + 1)))))) < (IntKind.u64.wrap ((IntKind.u64.wrap (a2)) + 1)) then (if ((t120 == t118) == ((IntKind.u64.wrap (t118 * (IntKind.u64.wrap ((IntKind.u64.wrap (a2)) + 1)))) == (IntKind.u64.wrap ((a0 / 4294967296) * (a1 / 4294967296))))) = true then (if t123 = true then (if (a1 / 4294967296) = 0 then (some true) else (some (t122 == (a0 / 4294967296)))) else (some false)) else (some false)) else (some false)) else (some false)) = some r := by rw [if_pos rfl] at H; exact H
        clear H
        have H := H1
        clear H1
        by_cases c12 : (IntKind.u64.wrap (t118 * (IntKind.u64.wrap ((IntKind.u64.wrap (a2)) + 1)))) ≤ (IntKind.u64.wrap ((a0 / 4294967296) * (a1 / 4294967296)))
        · rw [if_pos c12] at H
          have c12b0 : decide ((IntKind.u64.wrap (t118 * (IntKind.u64.wrap ((IntKind.u64.wrap (a2)) + 1)))) ≤ (IntKind.u64.wrap ((a0 / 4294967296) * (a1 / 4294967296)))) = true := decide_eq_true c12
          clear c12
          by_cases c13 : (IntKind.u64.wrap ((IntKind.u64.wrap ((a0 / 4294967296) * (a1 / 4294967296))) - (IntKind.u64.wrap (t118 * (IntKind.u64.wrap ((IntKind.u64.wrap (a2)) + 1)))))) < (IntKind.u64.wrap ((IntKind.u64.wrap (a2)) + 1))
          · rw [if_pos c13] at H
            have c13b0 : decide ((IntKind.u64.wrap ((IntKind.u64.wrap ((a0 / 4294967296) * (a1 / 4294967296))) - (IntKind.u64.wrap (t118 * (IntKind.u64.wrap ((IntKind.u64.wrap (a2)) + 1)))))) < (IntKind.u64.wrap ((IntKind.u64.wrap (a2)) + 1))) = true := decide_eq_true c13
            clear c13
            by_cases c14 : ((t120 == t118) == ((IntKind.u64.wrap (t118 * (IntKind.u64.wrap ((IntKind.u64.wrap (a2)) + 1)))) == (IntKind.u64.wrap ((a0 / 4294967296) * (a1 / 4294967296))))) = true
            · rw [if_pos c14] at H
              have c14b0 : ((t120 == t118) == ((IntKind.u64.wrap (t118 * (IntKind.u64.wrap ((IntKind.u64.wrap (a2)) + 1)))) == (IntKind.u64.wrap ((a0 / 4294967296) * (a1 / 4294967296))))) = true := c14
              (try (have c14b1 : decide ((t120 == t118) = ((IntKind.u64.wrap (t118 * (IntKind.u64.wrap ((IntKind.u64.wrap (a2)) + 1)))) == (IntKind.u64.wrap ((a0 / 4294967296) * (a1 / 4294967296))))) = true := by simpa using c14))
              (try (have c14b2 : ((t120 == t118) == ((IntKind.u64.wrap (t118 * (IntKind.u64.wrap ((IntKind.u64.wrap (a2)) + 1)))) == (IntKind.u64.wrap ((a0 / 4294967296) * (a1 / 4294967296))))) = true := by simpa using c14))
              clear c14
              by_cases c15 : t123 = true
              · subst c15
                have H1 : (if (a1 / 4294967296) = 0 then (some true) else (some (t122 == (a0 / 4294967296)))) = some r := by rw [if_pos rfl] at H; exact H
                clear H
                have H := H1
                clear H1
                by_cases c16 : (a1 / 4294967296) = 0
                · rw [if_pos c16] at H
                  have c16b0 : ((a1 / 4294967296) == 0) = true := beq_iff_eq.mpr c16
                  have c16b1 : ((a1 / 4294967296) != 0) = false := bne_eq_false_iff_eq.mpr c16
                  clear c16
                  obtain rfl := Option.some.inj H
                  go_enter Try.func4, Try.ntmps4
                  go_wp2_with (first | ((with_reducible refine gate_callee (f := 11) rfl ?_); refine goesL_ (some 14) rfl rfl Try.func11 (by kernel_rfl) rfl #[] rfl (by (try simp only [List.map_toArray, List.map_cons, List.map_nil]); first | done | rfl | (simp only [List.length_drop, List.length_take]; rfl)) ?_; (with_reducible refine (weighbridgelaw01_fit.calls k  true _ A4.out).mono ?_); rintro e w' ⟨rfl, ⟨nd, rfl⟩⟩; refine ⟨_, rfl, ?_⟩) | ((with_reducible refine gate_callee (f := 12) rfl ?_); refine goesL_ (some 27) rfl rfl Try.func12 (by kernel_rfl) rfl #[.int .u64 (a0 / 4294967296), .int .u64 (a1 / 4294967296), .int .u64 (IntKind.u64.wrap ((IntKind.u64.wrap (a2)) + 1))] rfl (by (try simp only [List.map_toArray, List.map_cons, List.map_nil]); first | done | rfl | (simp only [List.length_drop, List.length_take]; rfl)) ?_; (with_reducible refine (arith_Down.calls k (a0 / 4294967296) (a1 / 4294967296) (IntKind.u64.wrap ((IntKind.u64.wrap (a2)) + 1)) t118 true _ A6.out).mono ?_); rintro e w' ⟨rfl, ⟨nd, rfl⟩⟩; refine ⟨_, rfl, ?_⟩) | ((with_reducible refine gate_callee (f := 14) rfl ?_); refine goesL_ (some 34) rfl rfl Try.func14 (by kernel_rfl) rfl #[.int .u64 (a0 / 4294967296), .int .u64 (a1 / 4294967296), .int .u64 (IntKind.u64.wrap ((IntKind.u64.wrap (a2)) + 1))] rfl (by (try simp only [List.map_toArray, List.map_cons, List.map_nil]); first | done | rfl | (simp only [List.length_drop, List.length_take]; rfl)) ?_; (with_reducible refine (arith_Up.calls k (a0 / 4294967296) (a1 / 4294967296) (IntKind.u64.wrap ((IntKind.u64.wrap (a2)) + 1)) t120 true _ A7.out).mono ?_); rintro e w' ⟨rfl, ⟨nd, rfl⟩⟩; refine ⟨_, rfl, ?_⟩) | ((with_reducible refine gate_callee (f := 12) rfl ?_); refine goesL_ (some 42) rfl rfl Try.func12 (by kernel_rfl) rfl #[.int .u64 (a0 / 4294967296), .int .u64 (a1 / 4294967296), .int .u64 ji8] rfl (by (try simp only [List.map_toArray, List.map_cons, List.map_nil]); first | done | (simp only [hji8]; rfl) | rfl | (simp only [List.length_drop, List.length_take]; rfl)) ?_; (with_reducible refine (arith_Down.calls k (a0 / 4294967296) (a1 / 4294967296) ji8 t122 true _ A9.out).mono ?_); rintro e w' ⟨rfl, ⟨nd, rfl⟩⟩; refine ⟨_, rfl, ?_⟩))
                  go_ret
                  exact ⟨by first | rfl | (simp [errW_none, errW_some] <;> rfl) | (simp only [← hji8]; first | rfl | (simp [errW_none, errW_some] <;> rfl)) | (simp [*, errW_none, errW_some] <;> rfl), by repeat (first | (with_reducible first | exact HB.out | apply below_alloc | apply pw_below_drewN | apply below_drew1) | exact HB.out)⟩
                · rw [if_neg c16] at H
                  have c16b0 : ((a1 / 4294967296) == 0) = false := beq_eq_false_iff_ne.mpr c16
                  have c16b1 : ((a1 / 4294967296) != 0) = true := bne_iff_ne.mpr c16
                  obtain rfl := Option.some.inj H
                  go_enter Try.func4, Try.ntmps4
                  go_wp2_with (first | ((with_reducible refine gate_callee (f := 11) rfl ?_); refine goesL_ (some 14) rfl rfl Try.func11 (by kernel_rfl) rfl #[] rfl (by (try simp only [List.map_toArray, List.map_cons, List.map_nil]); first | done | rfl | (simp only [List.length_drop, List.length_take]; rfl)) ?_; (with_reducible refine (weighbridgelaw01_fit.calls k  true _ A4.out).mono ?_); rintro e w' ⟨rfl, ⟨nd, rfl⟩⟩; refine ⟨_, rfl, ?_⟩) | ((with_reducible refine gate_callee (f := 12) rfl ?_); refine goesL_ (some 27) rfl rfl Try.func12 (by kernel_rfl) rfl #[.int .u64 (a0 / 4294967296), .int .u64 (a1 / 4294967296), .int .u64 (IntKind.u64.wrap ((IntKind.u64.wrap (a2)) + 1))] rfl (by (try simp only [List.map_toArray, List.map_cons, List.map_nil]); first | done | rfl | (simp only [List.length_drop, List.length_take]; rfl)) ?_; (with_reducible refine (arith_Down.calls k (a0 / 4294967296) (a1 / 4294967296) (IntKind.u64.wrap ((IntKind.u64.wrap (a2)) + 1)) t118 true _ A6.out).mono ?_); rintro e w' ⟨rfl, ⟨nd, rfl⟩⟩; refine ⟨_, rfl, ?_⟩) | ((with_reducible refine gate_callee (f := 14) rfl ?_); refine goesL_ (some 34) rfl rfl Try.func14 (by kernel_rfl) rfl #[.int .u64 (a0 / 4294967296), .int .u64 (a1 / 4294967296), .int .u64 (IntKind.u64.wrap ((IntKind.u64.wrap (a2)) + 1))] rfl (by (try simp only [List.map_toArray, List.map_cons, List.map_nil]); first | done | rfl | (simp only [List.length_drop, List.length_take]; rfl)) ?_; (with_reducible refine (arith_Up.calls k (a0 / 4294967296) (a1 / 4294967296) (IntKind.u64.wrap ((IntKind.u64.wrap (a2)) + 1)) t120 true _ A7.out).mono ?_); rintro e w' ⟨rfl, ⟨nd, rfl⟩⟩; refine ⟨_, rfl, ?_⟩) | ((with_reducible refine gate_callee (f := 12) rfl ?_); refine goesL_ (some 42) rfl rfl Try.func12 (by kernel_rfl) rfl #[.int .u64 (a0 / 4294967296), .int .u64 (a1 / 4294967296), .int .u64 ji8] rfl (by (try simp only [List.map_toArray, List.map_cons, List.map_nil]); first | done | (simp only [hji8]; rfl) | rfl | (simp only [List.length_drop, List.length_take]; rfl)) ?_; (with_reducible refine (arith_Down.calls k (a0 / 4294967296) (a1 / 4294967296) ji8 t122 true _ A9.out).mono ?_); rintro e w' ⟨rfl, ⟨nd, rfl⟩⟩; refine ⟨_, rfl, ?_⟩))
                  go_ret
                  exact ⟨by first | rfl | (simp [errW_none, errW_some] <;> rfl) | (simp only [← hji8]; first | rfl | (simp [errW_none, errW_some] <;> rfl)) | (simp [*, errW_none, errW_some] <;> rfl), by repeat (first | (with_reducible first | exact HB.out | apply below_alloc | apply pw_below_drewN | apply below_drew1) | exact HB.out)⟩
              · replace c15 := Bool.eq_false_iff.mpr c15
                subst c15
                have H1 : (some false) = some r := by rw [if_neg (show ¬ (false = true) by decide)] at H; exact H
                clear H
                have H := H1
                clear H1
                obtain rfl := Option.some.inj H
                go_enter Try.func4, Try.ntmps4
                go_wp2_with (first | ((with_reducible refine gate_callee (f := 11) rfl ?_); refine goesL_ (some 14) rfl rfl Try.func11 (by kernel_rfl) rfl #[] rfl (by (try simp only [List.map_toArray, List.map_cons, List.map_nil]); first | done | rfl | (simp only [List.length_drop, List.length_take]; rfl)) ?_; (with_reducible refine (weighbridgelaw01_fit.calls k  true _ A4.out).mono ?_); rintro e w' ⟨rfl, ⟨nd, rfl⟩⟩; refine ⟨_, rfl, ?_⟩) | ((with_reducible refine gate_callee (f := 12) rfl ?_); refine goesL_ (some 27) rfl rfl Try.func12 (by kernel_rfl) rfl #[.int .u64 (a0 / 4294967296), .int .u64 (a1 / 4294967296), .int .u64 (IntKind.u64.wrap ((IntKind.u64.wrap (a2)) + 1))] rfl (by (try simp only [List.map_toArray, List.map_cons, List.map_nil]); first | done | rfl | (simp only [List.length_drop, List.length_take]; rfl)) ?_; (with_reducible refine (arith_Down.calls k (a0 / 4294967296) (a1 / 4294967296) (IntKind.u64.wrap ((IntKind.u64.wrap (a2)) + 1)) t118 true _ A6.out).mono ?_); rintro e w' ⟨rfl, ⟨nd, rfl⟩⟩; refine ⟨_, rfl, ?_⟩) | ((with_reducible refine gate_callee (f := 14) rfl ?_); refine goesL_ (some 34) rfl rfl Try.func14 (by kernel_rfl) rfl #[.int .u64 (a0 / 4294967296), .int .u64 (a1 / 4294967296), .int .u64 (IntKind.u64.wrap ((IntKind.u64.wrap (a2)) + 1))] rfl (by (try simp only [List.map_toArray, List.map_cons, List.map_nil]); first | done | rfl | (simp only [List.length_drop, List.length_take]; rfl)) ?_; (with_reducible refine (arith_Up.calls k (a0 / 4294967296) (a1 / 4294967296) (IntKind.u64.wrap ((IntKind.u64.wrap (a2)) + 1)) t120 true _ A7.out).mono ?_); rintro e w' ⟨rfl, ⟨nd, rfl⟩⟩; refine ⟨_, rfl, ?_⟩) | ((with_reducible refine gate_callee (f := 12) rfl ?_); refine goesL_ (some 42) rfl rfl Try.func12 (by kernel_rfl) rfl #[.int .u64 (a0 / 4294967296), .int .u64 (a1 / 4294967296), .int .u64 ji8] rfl (by (try simp only [List.map_toArray, List.map_cons, List.map_nil]); first | done | (simp only [hji8]; rfl) | rfl | (simp only [List.length_drop, List.length_take]; rfl)) ?_; (with_reducible refine (arith_Down.calls k (a0 / 4294967296) (a1 / 4294967296) ji8 t122 false _ A9.out).mono ?_); rintro e w' ⟨rfl, ⟨nd, rfl⟩⟩; refine ⟨_, rfl, ?_⟩))
                go_ret
                exact ⟨by first | rfl | (simp [errW_none, errW_some] <;> rfl) | (simp only [← hji8]; first | rfl | (simp [errW_none, errW_some] <;> rfl)) | (simp [*, errW_none, errW_some] <;> rfl), by repeat (first | (with_reducible first | exact HB.out | apply below_alloc | apply pw_below_drewN | apply below_drew1) | exact HB.out)⟩
            · rw [if_neg c14] at H
              have c14b0 : ((t120 == t118) == ((IntKind.u64.wrap (t118 * (IntKind.u64.wrap ((IntKind.u64.wrap (a2)) + 1)))) == (IntKind.u64.wrap ((a0 / 4294967296) * (a1 / 4294967296))))) = false := by simpa using c14
              (try (have c14b1 : decide ((t120 == t118) = ((IntKind.u64.wrap (t118 * (IntKind.u64.wrap ((IntKind.u64.wrap (a2)) + 1)))) == (IntKind.u64.wrap ((a0 / 4294967296) * (a1 / 4294967296))))) = false := by simpa using c14))
              (try (have c14b2 : ((t120 == t118) == ((IntKind.u64.wrap (t118 * (IntKind.u64.wrap ((IntKind.u64.wrap (a2)) + 1)))) == (IntKind.u64.wrap ((a0 / 4294967296) * (a1 / 4294967296))))) = false := by simpa using c14))
              (try (have c14b3 : ¬ ((t120 == t118) = ((IntKind.u64.wrap (t118 * (IntKind.u64.wrap ((IntKind.u64.wrap (a2)) + 1)))) == (IntKind.u64.wrap ((a0 / 4294967296) * (a1 / 4294967296))))) := by simpa using c14))
              clear c14
              obtain rfl := Option.some.inj H
              go_enter Try.func4, Try.ntmps4
              go_wp2_with (first | ((with_reducible refine gate_callee (f := 11) rfl ?_); refine goesL_ (some 14) rfl rfl Try.func11 (by kernel_rfl) rfl #[] rfl (by (try simp only [List.map_toArray, List.map_cons, List.map_nil]); first | done | rfl | (simp only [List.length_drop, List.length_take]; rfl)) ?_; (with_reducible refine (weighbridgelaw01_fit.calls k  true _ A4.out).mono ?_); rintro e w' ⟨rfl, ⟨nd, rfl⟩⟩; refine ⟨_, rfl, ?_⟩) | ((with_reducible refine gate_callee (f := 12) rfl ?_); refine goesL_ (some 27) rfl rfl Try.func12 (by kernel_rfl) rfl #[.int .u64 (a0 / 4294967296), .int .u64 (a1 / 4294967296), .int .u64 (IntKind.u64.wrap ((IntKind.u64.wrap (a2)) + 1))] rfl (by (try simp only [List.map_toArray, List.map_cons, List.map_nil]); first | done | rfl | (simp only [List.length_drop, List.length_take]; rfl)) ?_; (with_reducible refine (arith_Down.calls k (a0 / 4294967296) (a1 / 4294967296) (IntKind.u64.wrap ((IntKind.u64.wrap (a2)) + 1)) t118 true _ A6.out).mono ?_); rintro e w' ⟨rfl, ⟨nd, rfl⟩⟩; refine ⟨_, rfl, ?_⟩) | ((with_reducible refine gate_callee (f := 14) rfl ?_); refine goesL_ (some 34) rfl rfl Try.func14 (by kernel_rfl) rfl #[.int .u64 (a0 / 4294967296), .int .u64 (a1 / 4294967296), .int .u64 (IntKind.u64.wrap ((IntKind.u64.wrap (a2)) + 1))] rfl (by (try simp only [List.map_toArray, List.map_cons, List.map_nil]); first | done | rfl | (simp only [List.length_drop, List.length_take]; rfl)) ?_; (with_reducible refine (arith_Up.calls k (a0 / 4294967296) (a1 / 4294967296) (IntKind.u64.wrap ((IntKind.u64.wrap (a2)) + 1)) t120 true _ A7.out).mono ?_); rintro e w' ⟨rfl, ⟨nd, rfl⟩⟩; refine ⟨_, rfl, ?_⟩) | ((with_reducible refine gate_callee (f := 12) rfl ?_); refine goesL_ (some 42) rfl rfl Try.func12 (by kernel_rfl) rfl #[.int .u64 (a0 / 4294967296), .int .u64 (a1 / 4294967296), .int .u64 ji8] rfl (by (try simp only [List.map_toArray, List.map_cons, List.map_nil]); first | done | (simp only [hji8]; rfl) | rfl | (simp only [List.length_drop, List.length_take]; rfl)) ?_; (with_reducible refine (arith_Down.calls k (a0 / 4294967296) (a1 / 4294967296) ji8 t122 t123 _ A9.out).mono ?_); rintro e w' ⟨rfl, ⟨nd, rfl⟩⟩; refine ⟨_, rfl, ?_⟩))
              go_ret
              exact ⟨by first | rfl | (simp [errW_none, errW_some] <;> rfl) | (simp only [← hji8]; first | rfl | (simp [errW_none, errW_some] <;> rfl)) | (simp [*, errW_none, errW_some] <;> rfl), by repeat (first | (with_reducible first | exact HB.out | apply below_alloc | apply pw_below_drewN | apply below_drew1) | exact HB.out)⟩
          · rw [if_neg c13] at H
            have c13b0 : decide ((IntKind.u64.wrap ((IntKind.u64.wrap ((a0 / 4294967296) * (a1 / 4294967296))) - (IntKind.u64.wrap (t118 * (IntKind.u64.wrap ((IntKind.u64.wrap (a2)) + 1)))))) < (IntKind.u64.wrap ((IntKind.u64.wrap (a2)) + 1))) = false := decide_eq_false c13
            clear c13
            obtain rfl := Option.some.inj H
            go_enter Try.func4, Try.ntmps4
            go_wp2_with (first | ((with_reducible refine gate_callee (f := 11) rfl ?_); refine goesL_ (some 14) rfl rfl Try.func11 (by kernel_rfl) rfl #[] rfl (by (try simp only [List.map_toArray, List.map_cons, List.map_nil]); first | done | rfl | (simp only [List.length_drop, List.length_take]; rfl)) ?_; (with_reducible refine (weighbridgelaw01_fit.calls k  true _ A4.out).mono ?_); rintro e w' ⟨rfl, ⟨nd, rfl⟩⟩; refine ⟨_, rfl, ?_⟩) | ((with_reducible refine gate_callee (f := 12) rfl ?_); refine goesL_ (some 27) rfl rfl Try.func12 (by kernel_rfl) rfl #[.int .u64 (a0 / 4294967296), .int .u64 (a1 / 4294967296), .int .u64 (IntKind.u64.wrap ((IntKind.u64.wrap (a2)) + 1))] rfl (by (try simp only [List.map_toArray, List.map_cons, List.map_nil]); first | done | rfl | (simp only [List.length_drop, List.length_take]; rfl)) ?_; (with_reducible refine (arith_Down.calls k (a0 / 4294967296) (a1 / 4294967296) (IntKind.u64.wrap ((IntKind.u64.wrap (a2)) + 1)) t118 true _ A6.out).mono ?_); rintro e w' ⟨rfl, ⟨nd, rfl⟩⟩; refine ⟨_, rfl, ?_⟩) | ((with_reducible refine gate_callee (f := 14) rfl ?_); refine goesL_ (some 34) rfl rfl Try.func14 (by kernel_rfl) rfl #[.int .u64 (a0 / 4294967296), .int .u64 (a1 / 4294967296), .int .u64 (IntKind.u64.wrap ((IntKind.u64.wrap (a2)) + 1))] rfl (by (try simp only [List.map_toArray, List.map_cons, List.map_nil]); first | done | rfl | (simp only [List.length_drop, List.length_take]; rfl)) ?_; (with_reducible refine (arith_Up.calls k (a0 / 4294967296) (a1 / 4294967296) (IntKind.u64.wrap ((IntKind.u64.wrap (a2)) + 1)) t120 true _ A7.out).mono ?_); rintro e w' ⟨rfl, ⟨nd, rfl⟩⟩; refine ⟨_, rfl, ?_⟩) | ((with_reducible refine gate_callee (f := 12) rfl ?_); refine goesL_ (some 42) rfl rfl Try.func12 (by kernel_rfl) rfl #[.int .u64 (a0 / 4294967296), .int .u64 (a1 / 4294967296), .int .u64 ji8] rfl (by (try simp only [List.map_toArray, List.map_cons, List.map_nil]); first | done | (simp only [hji8]; rfl) | rfl | (simp only [List.length_drop, List.length_take]; rfl)) ?_; (with_reducible refine (arith_Down.calls k (a0 / 4294967296) (a1 / 4294967296) ji8 t122 t123 _ A9.out).mono ?_); rintro e w' ⟨rfl, ⟨nd, rfl⟩⟩; refine ⟨_, rfl, ?_⟩))
            go_ret
            exact ⟨by first | rfl | (simp [errW_none, errW_some] <;> rfl) | (simp only [← hji8]; first | rfl | (simp [errW_none, errW_some] <;> rfl)) | (simp [*, errW_none, errW_some] <;> rfl), by repeat (first | (with_reducible first | exact HB.out | apply below_alloc | apply pw_below_drewN | apply below_drew1) | exact HB.out)⟩
        · rw [if_neg c12] at H
          have c12b0 : decide ((IntKind.u64.wrap (t118 * (IntKind.u64.wrap ((IntKind.u64.wrap (a2)) + 1)))) ≤ (IntKind.u64.wrap ((a0 / 4294967296) * (a1 / 4294967296)))) = false := decide_eq_false c12
          clear c12
          obtain rfl := Option.some.inj H
          go_enter Try.func4, Try.ntmps4
          go_wp2_with (first | ((with_reducible refine gate_callee (f := 11) rfl ?_); refine goesL_ (some 14) rfl rfl Try.func11 (by kernel_rfl) rfl #[] rfl (by (try simp only [List.map_toArray, List.map_cons, List.map_nil]); first | done | rfl | (simp only [List.length_drop, List.length_take]; rfl)) ?_; (with_reducible refine (weighbridgelaw01_fit.calls k  true _ A4.out).mono ?_); rintro e w' ⟨rfl, ⟨nd, rfl⟩⟩; refine ⟨_, rfl, ?_⟩) | ((with_reducible refine gate_callee (f := 12) rfl ?_); refine goesL_ (some 27) rfl rfl Try.func12 (by kernel_rfl) rfl #[.int .u64 (a0 / 4294967296), .int .u64 (a1 / 4294967296), .int .u64 (IntKind.u64.wrap ((IntKind.u64.wrap (a2)) + 1))] rfl (by (try simp only [List.map_toArray, List.map_cons, List.map_nil]); first | done | rfl | (simp only [List.length_drop, List.length_take]; rfl)) ?_; (with_reducible refine (arith_Down.calls k (a0 / 4294967296) (a1 / 4294967296) (IntKind.u64.wrap ((IntKind.u64.wrap (a2)) + 1)) t118 true _ A6.out).mono ?_); rintro e w' ⟨rfl, ⟨nd, rfl⟩⟩; refine ⟨_, rfl, ?_⟩) | ((with_reducible refine gate_callee (f := 14) rfl ?_); refine goesL_ (some 34) rfl rfl Try.func14 (by kernel_rfl) rfl #[.int .u64 (a0 / 4294967296), .int .u64 (a1 / 4294967296), .int .u64 (IntKind.u64.wrap ((IntKind.u64.wrap (a2)) + 1))] rfl (by (try simp only [List.map_toArray, List.map_cons, List.map_nil]); first | done | rfl | (simp only [List.length_drop, List.length_take]; rfl)) ?_; (with_reducible refine (arith_Up.calls k (a0 / 4294967296) (a1 / 4294967296) (IntKind.u64.wrap ((IntKind.u64.wrap (a2)) + 1)) t120 true _ A7.out).mono ?_); rintro e w' ⟨rfl, ⟨nd, rfl⟩⟩; refine ⟨_, rfl, ?_⟩) | ((with_reducible refine gate_callee (f := 12) rfl ?_); refine goesL_ (some 42) rfl rfl Try.func12 (by kernel_rfl) rfl #[.int .u64 (a0 / 4294967296), .int .u64 (a1 / 4294967296), .int .u64 ji8] rfl (by (try simp only [List.map_toArray, List.map_cons, List.map_nil]); first | done | (simp only [hji8]; rfl) | rfl | (simp only [List.length_drop, List.length_take]; rfl)) ?_; (with_reducible refine (arith_Down.calls k (a0 / 4294967296) (a1 / 4294967296) ji8 t122 t123 _ A9.out).mono ?_); rintro e w' ⟨rfl, ⟨nd, rfl⟩⟩; refine ⟨_, rfl, ?_⟩))
          go_ret
          exact ⟨by first | rfl | (simp [errW_none, errW_some] <;> rfl) | (simp only [← hji8]; first | rfl | (simp [errW_none, errW_some] <;> rfl)) | (simp [*, errW_none, errW_some] <;> rfl), by repeat (first | (with_reducible first | exact HB.out | apply below_alloc | apply pw_below_drewN | apply below_drew1) | exact HB.out)⟩
      · replace c11 := Bool.eq_false_iff.mpr c11
        subst c11
        have H1 : (some false) = some r := by rw [if_neg (show ¬ (false = true) by decide)] at H; exact H
        clear H
        have H := H1
        clear H1
        obtain rfl := Option.some.inj H
        go_enter Try.func4, Try.ntmps4
        go_wp2_with (first | ((with_reducible refine gate_callee (f := 11) rfl ?_); refine goesL_ (some 14) rfl rfl Try.func11 (by kernel_rfl) rfl #[] rfl (by (try simp only [List.map_toArray, List.map_cons, List.map_nil]); first | done | rfl | (simp only [List.length_drop, List.length_take]; rfl)) ?_; (with_reducible refine (weighbridgelaw01_fit.calls k  true _ A4.out).mono ?_); rintro e w' ⟨rfl, ⟨nd, rfl⟩⟩; refine ⟨_, rfl, ?_⟩) | ((with_reducible refine gate_callee (f := 12) rfl ?_); refine goesL_ (some 27) rfl rfl Try.func12 (by kernel_rfl) rfl #[.int .u64 (a0 / 4294967296), .int .u64 (a1 / 4294967296), .int .u64 (IntKind.u64.wrap ((IntKind.u64.wrap (a2)) + 1))] rfl (by (try simp only [List.map_toArray, List.map_cons, List.map_nil]); first | done | rfl | (simp only [List.length_drop, List.length_take]; rfl)) ?_; (with_reducible refine (arith_Down.calls k (a0 / 4294967296) (a1 / 4294967296) (IntKind.u64.wrap ((IntKind.u64.wrap (a2)) + 1)) t118 true _ A6.out).mono ?_); rintro e w' ⟨rfl, ⟨nd, rfl⟩⟩; refine ⟨_, rfl, ?_⟩) | ((with_reducible refine gate_callee (f := 14) rfl ?_); refine goesL_ (some 34) rfl rfl Try.func14 (by kernel_rfl) rfl #[.int .u64 (a0 / 4294967296), .int .u64 (a1 / 4294967296), .int .u64 (IntKind.u64.wrap ((IntKind.u64.wrap (a2)) + 1))] rfl (by (try simp only [List.map_toArray, List.map_cons, List.map_nil]); first | done | rfl | (simp only [List.length_drop, List.length_take]; rfl)) ?_; (with_reducible refine (arith_Up.calls k (a0 / 4294967296) (a1 / 4294967296) (IntKind.u64.wrap ((IntKind.u64.wrap (a2)) + 1)) t120 false _ A7.out).mono ?_); rintro e w' ⟨rfl, ⟨nd, rfl⟩⟩; refine ⟨_, rfl, ?_⟩) | ((with_reducible refine gate_callee (f := 12) rfl ?_); refine goesL_ (some 42) rfl rfl Try.func12 (by kernel_rfl) rfl #[.int .u64 (a0 / 4294967296), .int .u64 (a1 / 4294967296), .int .u64 ji8] rfl (by (try simp only [List.map_toArray, List.map_cons, List.map_nil]); first | done | (simp only [hji8]; rfl) | rfl | (simp only [List.length_drop, List.length_take]; rfl)) ?_; (with_reducible refine (arith_Down.calls k (a0 / 4294967296) (a1 / 4294967296) ji8 t122 t123 _ A9.out).mono ?_); rintro e w' ⟨rfl, ⟨nd, rfl⟩⟩; refine ⟨_, rfl, ?_⟩))
        go_ret
        exact ⟨by first | rfl | (simp [errW_none, errW_some] <;> rfl) | (simp only [← hji8]; first | rfl | (simp [errW_none, errW_some] <;> rfl)) | (simp [*, errW_none, errW_some] <;> rfl), by repeat (first | (with_reducible first | exact HB.out | apply below_alloc | apply pw_below_drewN | apply below_drew1) | exact HB.out)⟩
    · replace c10 := Bool.eq_false_iff.mpr c10
      subst c10
      have H1 : (some false) = some r := by rw [if_neg (show ¬ (false = true) by decide)] at H; exact H
      clear H
      have H := H1
      clear H1
      obtain rfl := Option.some.inj H
      go_enter Try.func4, Try.ntmps4
      go_wp2_with (first | ((with_reducible refine gate_callee (f := 11) rfl ?_); refine goesL_ (some 14) rfl rfl Try.func11 (by kernel_rfl) rfl #[] rfl (by (try simp only [List.map_toArray, List.map_cons, List.map_nil]); first | done | rfl | (simp only [List.length_drop, List.length_take]; rfl)) ?_; (with_reducible refine (weighbridgelaw01_fit.calls k  true _ A4.out).mono ?_); rintro e w' ⟨rfl, ⟨nd, rfl⟩⟩; refine ⟨_, rfl, ?_⟩) | ((with_reducible refine gate_callee (f := 12) rfl ?_); refine goesL_ (some 27) rfl rfl Try.func12 (by kernel_rfl) rfl #[.int .u64 (a0 / 4294967296), .int .u64 (a1 / 4294967296), .int .u64 (IntKind.u64.wrap ((IntKind.u64.wrap (a2)) + 1))] rfl (by (try simp only [List.map_toArray, List.map_cons, List.map_nil]); first | done | rfl | (simp only [List.length_drop, List.length_take]; rfl)) ?_; (with_reducible refine (arith_Down.calls k (a0 / 4294967296) (a1 / 4294967296) (IntKind.u64.wrap ((IntKind.u64.wrap (a2)) + 1)) t118 false _ A6.out).mono ?_); rintro e w' ⟨rfl, ⟨nd, rfl⟩⟩; refine ⟨_, rfl, ?_⟩) | ((with_reducible refine gate_callee (f := 14) rfl ?_); refine goesL_ (some 34) rfl rfl Try.func14 (by kernel_rfl) rfl #[.int .u64 (a0 / 4294967296), .int .u64 (a1 / 4294967296), .int .u64 (IntKind.u64.wrap ((IntKind.u64.wrap (a2)) + 1))] rfl (by (try simp only [List.map_toArray, List.map_cons, List.map_nil]); first | done | rfl | (simp only [List.length_drop, List.length_take]; rfl)) ?_; (with_reducible refine (arith_Up.calls k (a0 / 4294967296) (a1 / 4294967296) (IntKind.u64.wrap ((IntKind.u64.wrap (a2)) + 1)) t120 t121 _ A7.out).mono ?_); rintro e w' ⟨rfl, ⟨nd, rfl⟩⟩; refine ⟨_, rfl, ?_⟩) | ((with_reducible refine gate_callee (f := 12) rfl ?_); refine goesL_ (some 42) rfl rfl Try.func12 (by kernel_rfl) rfl #[.int .u64 (a0 / 4294967296), .int .u64 (a1 / 4294967296), .int .u64 ji8] rfl (by (try simp only [List.map_toArray, List.map_cons, List.map_nil]); first | done | (simp only [hji8]; rfl) | rfl | (simp only [List.length_drop, List.length_take]; rfl)) ?_; (with_reducible refine (arith_Down.calls k (a0 / 4294967296) (a1 / 4294967296) ji8 t122 t123 _ A9.out).mono ?_); rintro e w' ⟨rfl, ⟨nd, rfl⟩⟩; refine ⟨_, rfl, ?_⟩))
      go_ret
      exact ⟨by first | rfl | (simp [errW_none, errW_some] <;> rfl) | (simp only [← hji8]; first | rfl | (simp [errW_none, errW_some] <;> rfl)) | (simp [*, errW_none, errW_some] <;> rfl), by repeat (first | (with_reducible first | exact HB.out | apply below_alloc | apply pw_below_drewN | apply below_drew1) | exact HB.out)⟩
  · replace c5 := Bool.eq_false_iff.mpr c5
    subst c5
    have H1 : (some false) = some r := by rw [if_neg (show ¬ (false = true) by decide)] at H; exact H
    clear H
    have H := H1
    clear H1
    obtain rfl := Option.some.inj H
    go_enter Try.func4, Try.ntmps4
    go_wp2_with (first | ((with_reducible refine gate_callee (f := 11) rfl ?_); refine goesL_ (some 14) rfl rfl Try.func11 (by kernel_rfl) rfl #[] rfl (by (try simp only [List.map_toArray, List.map_cons, List.map_nil]); first | done | rfl | (simp only [List.length_drop, List.length_take]; rfl)) ?_; (with_reducible refine (weighbridgelaw01_fit.calls k  false _ A4.out).mono ?_); rintro e w' ⟨rfl, ⟨nd, rfl⟩⟩; refine ⟨_, rfl, ?_⟩))
    go_ret
    exact ⟨by first | rfl | (simp [errW_none, errW_some] <;> rfl) | (simp [*, errW_none, errW_some] <;> rfl), by repeat (first | (with_reducible first | exact HB.out | apply below_alloc | apply pw_below_drewN | apply below_drew1) | exact HB.out)⟩

/-- THE ONE PURE STATEMENT of weighbridgelaw01_ArithParts: yours. -/
def weighbridgelaw01_ArithParts.Pure : Prop := ∀ (a0 : Int) (a1 : Int) (a2 : Int), (Lit.int .u64 a0).wf = true → (Lit.int .u64 a1).wf = true → (Lit.int .u32 a2).wf = true → ∃ k, weighbridgelaw01_ArithParts.f k a0 a1 a2 = some true
theorem weighbridgelaw01_ArithParts.walk (P : weighbridgelaw01_ArithParts.Pure) (a0 : Int) (a1 : Int) (a2 : Int) (w : World) (w0 : (Lit.int .u64 a0).wf = true) (w1 : (Lit.int .u64 a1).wf = true) (w2 : (Lit.int .u32 a2).wf = true) :
    Calls Try.prog 4 #[.int .u64 a0, .int .u64 a1, .int .u32 a2] w fun e w' => e = .returned (.bool true) ∧ Below w.heap.size w w' := by
  obtain ⟨k, h⟩ := P a0 a1 a2 w0 w1 w2
  refine (weighbridgelaw01_ArithParts.calls k a0 a1 a2 true w h).mono ?_
  rintro e w' ⟨rfl, hd⟩
  exact ⟨rfl, hd⟩

end Go.Proofs.Ytebgkamefapfcaa.QArithParts
