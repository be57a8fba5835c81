-- Laid by a program of this session (wip/myprint.py, over the kit's print.py): a walk of the code and what it computes.
import Derived.Test.YteboinnganbdeaaQHashLinesx0
import Derived.Test.YteboinnganbdeaaQHashLinesx1
import Derived.Test.YteboinnganbdeaaQHashLinesx2
namespace Go.Proofs.Yteboinnganbdeaa.QHashLines
open Go.RowKit Go.Proofs.YteboinnganbdeaaW.PrintWords Go.Proofs.YteboinnganbdeaaW.PrintLast Go.Proofs.YteboinnganbdeaaW.PrintMore
attribute [local go_sem] max2_int min2_int max_two min_two max_three min_three max_four min_four   -- for this text's walks alone
set_option linter.unusedVariables false
set_option linter.unusedSimpArgs false

/-! ### weighbridgelaw03_HashLines: function 5 -/
def weighbridgelaw03_HashLines.f (k : Nat) (a0 : Int) (a1_0 : Int) (a1_1 : Int) (a2 : ByteArray) : Option (Bool) := (weighbridgelaw03_fit.f k).bind fun t141 => (if t141 = true then (if (a2.size : Int) > 200 then (some true) else ((hash_Row_Of.f k (IntKind.u64.wrap ((Int.tmod a0 2305843009213693950) + 1)) (IntKind.u64.wrap ((Int.tmod a1_0 2305843009213693950) + 1)) (Int.tmod a1_1 2305843009213693951) a2).bind fun t144 => ((hash_Row_Of.f k (IntKind.u64.wrap ((Int.tmod a0 2305843009213693950) + 1)) 1 0 a2).bind fun t145 => ((weighbridgeref02_Mul.f k t145 (IntKind.u64.wrap ((Int.tmod a1_0 2305843009213693950) + 1))).bind fun t146 => (if t144 = (Int.tmod (IntKind.u64.wrap (t146 + (Int.tmod a1_1 2305843009213693951))) 2305843009213693951) then ((hash_Row_Bucket.f k (IntKind.u64.wrap ((Int.tmod a0 2305843009213693950) + 1)) (IntKind.u64.wrap ((Int.tmod a1_0 2305843009213693950) + 1)) (Int.tmod a1_1 2305843009213693951) a2 100).bind fun t147 => ((hash_Row_Of.f k (IntKind.u64.wrap ((Int.tmod a0 2305843009213693950) + 1)) (IntKind.u64.wrap ((Int.tmod a1_0 2305843009213693950) + 1)) (Int.tmod a1_1 2305843009213693951) a2).bind fun t148 => ((hash_Place.f k t148 100).bind fun t149 => (if t147 = t149 then ((hash_Row_Bucket.f k (IntKind.u64.wrap ((Int.tmod a0 2305843009213693950) + 1)) (IntKind.u64.wrap ((Int.tmod a1_0 2305843009213693950) + 1)) (Int.tmod a1_1 2305843009213693951) a2 1).bind fun t150 => (some (t150 == 0))) else (some false))))) else (some false)))))) else (some false))
theorem weighbridgelaw03_HashLines.mono : ∀ a0 a1 a2 a3 k, LeO (weighbridgelaw03_HashLines.f k a0 a1 a2 a3) (weighbridgelaw03_HashLines.f (k + 1) a0 a1 a2 a3) := by
  intro a0 a1 a2 a3 k
  unfold weighbridgelaw03_HashLines.f
  repeat' first
      | (with_reducible exact hash_Place.mono _ _ _)
      | (with_reducible exact hash_Row_Bucket.mono _ _ _ _ _ _)
      | (with_reducible exact hash_Row_Of.mono _ _ _ _ _)
      | (with_reducible exact weighbridgelaw03_fit.mono _)
      | (with_reducible exact weighbridgeref02_Mul.mono _ _ _)
      | (with_reducible exact LeO.refl _)
      | (with_reducible exact LeO.none _)
      | (with_reducible refine LeO.ite ?_ ?_)
      | (with_reducible refine LeO.bind ?_ (fun _ => ?_))
      | exact hash_Place.mono _ _ _
      | exact hash_Row_Bucket.mono _ _ _ _ _ _
      | exact hash_Row_Of.mono _ _ _ _ _
      | exact weighbridgelaw03_fit.mono _
      | exact weighbridgeref02_Mul.mono _ _ _
      | exact LeO.none _
      | refine LeO.ite ?_ ?_
      | refine LeO.bind ?_ (fun _ => ?_)
def weighbridgelaw03_HashLines.T7 : Bool × List (List Nat × List Nat) := (true, [([], []), ([], []), ([0, 1], [0, 1]), ([], []), ([], []), ([3, 4, 2], [3, 4]), ([], []), ([6], [6]), ([5, 7, 5], [5, 7]), ([], []), ([9], [9]), ([8, 10], [8, 10]), ([11], [11]), ([2, 12], [2, 12]), ([13, 8], [13]), ([14], [14]), ([14], [14]), ([15, 16, 14, 14], [14, 15, 16]), ([14], [14]), ([14], [14]), ([18, 19, 17, 14], [14, 18, 19]), ([20, 20, 14], [14, 20]), ([17, 21, 14], [14, 17, 21]), ([14, 22], [14, 22]), ([23, 21], [23]), ([24], [24]), ([24], [24]), ([25, 26, 24, 24], [24, 25, 26]), ([27, 24], [24, 27]), ([24, 28], [24, 28]), ([29, 27, 0, 1, 2, 3, 4, 5, 6, 7, 8, 9, 10, 11, 12, 13, 14, 15, 16, 17, 18, 19, 20, 21, 22, 23, 24, 25, 26, 27, 28, 29], [29])])
def weighbridgelaw03_HashLines.B7 : List Nat := [0, 0, 3, 0, 0, 31, 0, 64, 255, 0, 512, 2047, 4095, 8191, 16383, 32767, 32767, 131071, 32767, 32767, 1048575, 2097151, 4194303, 8388607, 16777215, 33554431, 33554431, 134217727, 268435455, 536870911, 1073741823]
theorem weighbridgelaw03_HashLines.tab7 : rtab .any (opsOf Try.f5 7) = weighbridgelaw03_HashLines.T7 := by kernel_rfl
theorem weighbridgelaw03_HashLines.bits7 : waitsOk weighbridgelaw03_HashLines.T7.2 weighbridgelaw03_HashLines.B7 = true := by kernel_rfl
set_option maxHeartbeats 8000000 in
set_option maxRecDepth 100000 in
theorem weighbridgelaw03_HashLines.calls (k : Nat) (a0 : Int) (a1_0 : Int) (a1_1 : Int) (a2 : ByteArray) (r : Bool) (w : World) (hr_ : Aside0 (r = true)) (h : weighbridgelaw03_HashLines.f k a0 a1_0 a1_1 a2 = some r) :
    Calls Try.prog 5 #[.int .u64 a0, .agg #[.int .u64 a1_0, .int .u64 a1_1], .string a2] w fun e w' => e = .returned (.bool r) ∧ Below w.heap.size w w' := by
  have hu33 := Try.underlying33
  have hu28 := Try.underlying28
  have HB := Aside0.mk (Below.refl w.heap.size w)
  have H : ((weighbridgelaw03_fit.f k).bind fun t141 => (if t141 = true then (if (a2.size : Int) > 200 then (some true) else ((hash_Row_Of.f k (IntKind.u64.wrap ((Int.tmod a0 2305843009213693950) + 1)) (IntKind.u64.wrap ((Int.tmod a1_0 2305843009213693950) + 1)) (Int.tmod a1_1 2305843009213693951) a2).bind fun t144 => ((hash_Row_Of.f k (IntKind.u64.wrap ((Int.tmod a0 2305843009213693950) + 1)) 1 0 a2).bind fun t145 => ((weighbridgeref02_Mul.f k t145 (IntKind.u64.wrap ((Int.tmod a1_0 2305843009213693950) + 1))).bind fun t146 => (if t144 = (Int.tmod (IntKind.u64.wrap (t146 + (Int.tmod a1_1 2305843009213693951))) 2305843009213693951) then ((hash_Row_Bucket.f k (IntKind.u64.wrap ((Int.tmod a0 2305843009213693950) + 1)) (IntKind.u64.wrap ((Int.tmod a1_0 2305843009213693950) + 1)) (Int.tmod a1_1 2305843009213693951) a2 100).bind fun t147 => ((hash_Row_Of.f k (IntKind.u64.wrap ((Int.tmod a0 2305843009213693950) + 1)) (IntKind.u64.wrap ((Int.tmod a1_0 2305843009213693950) + 1)) (Int.tmod a1_1 2305843009213693951) a2).bind fun t148 => ((hash_Place.f k t148 100).bind fun t149 => (if t147 = t149 then ((hash_Row_Bucket.f k (IntKind.u64.wrap ((Int.tmod a0 2305843009213693950) + 1)) (IntKind.u64.wrap ((Int.tmod a1_0 2305843009213693950) + 1)) (Int.tmod a1_1 2305843009213693951) a2 1).bind fun t150 => (some (t150 == 0))) else (some false))))) else (some false)))))) else (some false))) = some r := h
  clear h
  replace H := Option.bind_eq_some_iff.mp H
  obtain ⟨t141, A40, H⟩ := H
  replace H : (if t141 = true then (if (a2.size : Int) > 200 then (some true) else ((hash_Row_Of.f k (IntKind.u64.wrap ((Int.tmod a0 2305843009213693950) + 1)) (IntKind.u64.wrap ((Int.tmod a1_0 2305843009213693950) + 1)) (Int.tmod a1_1 2305843009213693951) a2).bind fun t144 => ((hash_Row_Of.f k (IntKind.u64.wrap ((Int.tmod a0 2305843009213693950) + 1)) 1 0 a2).bind fun t145 => ((weighbridgeref02_Mul.f k t145 (IntKind.u64.wrap ((Int.tmod a1_0 2305843009213693950) + 1))).bind fun t146 => (if t144 = (Int.tmod (IntKind.u64.wrap (t146 + (Int.tmod a1_1 2305843009213693951))) 2305843009213693951) then ((hash_Row_Bucket.f k (IntKind.u64.wrap ((Int.tmod a0 2305843009213693950) + 1)) (IntKind.u64.wrap ((Int.tmod a1_0 2305843009213693950) + 1)) (Int.tmod a1_1 2305843009213693951) a2 100).bind fun t147 => ((hash_Row_Of.f k (IntKind.u64.wrap ((Int.tmod a0 2305843009213693950) + 1)) (IntKind.u64.wrap ((Int.tmod a1_0 2305843009213693950) + 1)) (Int.tmod a1_1 2305843009213693951) a2).bind fun t148 => ((hash_Place.f k t148 100).bind fun t149 => (if t147 = t149 then ((hash_Row_Bucket.f k (IntKind.u64.wrap ((Int.tmod a0 2305843009213693950) + 1)) (IntKind.u64.wrap ((Int.tmod a1_0 2305843009213693950) + 1)) (Int.tmod a1_1 2305843009213693951) a2 1).bind fun t150 => (some (t150 == 0))) else (some false))))) else (some false)))))) else (some false)) = some r := H
  have A4 := Aside0.mk A40
  clear A40
  by_cases c5 : t141 = true
  · subst c5
    have H1 : (if (a2.size : Int) > 200 then (some true) else ((hash_Row_Of.f k (IntKind.u64.wrap ((Int.tmod a0 2305843009213693950) + 1)) (IntKind.u64.wrap ((Int.tmod a1_0 2305843009213693950) + 1)) (Int.tmod a1_1 2305843009213693951) a2).bind fun t144 => ((hash_Row_Of.f k (IntKind.u64.wrap ((Int.tmod a0 2305843009213693950) + 1)) 1 0 a2).bind fun t145 => ((weighbridgeref02_Mul.f k t145 (IntKind.u64.wrap ((Int.tmod a1_0 2305843009213693950) + 1))).bind fun t146 => (if t144 = (Int.tmod (IntKind.u64.wrap (t146 + (Int.tmod a1_1 2305843009213693951))) 2305843009213693951) then ((hash_Row_Bucket.f k (IntKind.u64.wrap ((Int.tmod a0 2305843009213693950) + 1)) (IntKind.u64.wrap ((Int.tmod a1_0 2305843009213693950) + 1)) (Int.tmod a1_1 2305843009213693951) a2 100).bind fun t147 => ((hash_Row_Of.f k (IntKind.u64.wrap ((Int.tmod a0 2305843009213693950) + 1)) (IntKind.u64.wrap ((Int.tmod a1_0 2305843009213693950) + 1)) (Int.tmod a1_1 2305843009213693951) a2).bind fun t148 => ((hash_Place.f k t148 100).bind fun t149 => (if t147 = t149 then ((hash_Row_Bucket.f k (IntKind.u64.wrap ((Int.tmod a0 2305843009213693950) + 1)) (IntKind.u64.wrap ((Int.tmod a1_0 2305843009213693950) + 1)) (Int.tmod a1_1 2305843009213693951) a2 1).bind fun t150 => (some (t150 == 0))) else (some false))))) else (some false)))))) = some r := by rw [if_pos rfl] at H; exact H
    clear H
    have H := H1
    clear H1
    by_cases c6 : (a2.size : Int) > 200
    · rw [if_pos c6] at H
      have c6b0 : decide (200 < (a2.size : Int)) = true := decide_eq_true c6
      have c6b1 : decide (200 < a2.size) = true := decide_eq_true (by omega)
      clear c6
      obtain rfl := Option.some.inj H
      go_enter Try.func5, Try.ntmps5
      go_wp2_with (first | ((with_reducible refine gate_dst (N := 4) rfl ?_); refine box_event ?hg (N := 4) ?hd (cs := #[.int .u64 a1_0, .int .u64 a1_1]) (t := 33) ?hr ?_; (case hd => rfl); (case hg => rfl); (case hr => first | (go_simp; done) | (go_simp; rfl)); intro gb140 hg w7 hbox hb; have n0_ := Aside0.mk (below_step (by repeat (first | (with_reducible first | exact HB.out | apply below_alloc | apply pw_below_drewN | apply below_drew1) | exact HB.out)) hb); have n1_ := Aside0.mk (hbox); have n2_ := Aside0.mk ((by rw [hg]; exact (below_size (by repeat (first | (with_reducible first | exact HB.out | apply below_alloc | apply pw_below_drewN | apply below_drew1) | exact HB.out))) : w.heap.size ≤ gb140)); have n3_ := Aside0.mk ((by rw [hg]; exact (below_size (by repeat (first | (with_reducible first | exact HB.out | apply below_alloc | apply pw_below_drewN | apply below_drew1) | exact HB.out))) : w.heap.size ≤ gb140)); clear HB; have HB := n0_; have BK140 := n1_; have GW140 := n2_; have GE140 := n3_; clear n0_ n1_ n2_ n3_; clear hb hbox hg) | ((with_reducible refine gate_callee (f := 7) rfl ?_); refine goesL_ (some 9) rfl rfl Try.func7 (by kernel_rfl) rfl #[] rfl (by (try simp only [List.map_toArray, List.map_cons, List.map_nil]); first | done | rfl | (simp only [List.length_drop, List.length_take]; rfl)) ?_; (with_reducible refine (weighbridgelaw03_fit.calls k  true _ A4.out).mono ?_); rintro e w8 ⟨rfl, hb⟩; refine ⟨_, rfl, ?_⟩; have n0_ := Aside0.mk (blk_below (g := gb140) (o := .cells #[.int .u64 a1_0, .int .u64 a1_1] 33 (0, 0)) (by (with_reducible repeat (first | refine blk_drewN ?_ _ | refine blk_drew ?_ | refine blk_alloc ?_ _)); exact BK140.out) hb); have n1_ := Aside0.mk (below_step (by repeat (first | (with_reducible first | exact HB.out | apply below_alloc | apply pw_below_drewN | apply below_drew1 | refine below_set ?_ GE140.out) | exact HB.out)) hb); clear BK140; clear HB; have BK140 := n0_; have HB := n1_; clear n0_ n1_; (try clear hb); (try clear hb2); (try clear hk); (try clear hi)))
      go_ret
      exact ⟨by first | rfl | (simp [errW_none, errW_some] <;> rfl) | (simp [*, errW_none, errW_some] <;> rfl), by repeat (first | (with_reducible first | exact HB.out | apply below_alloc | apply pw_below_drewN | apply below_drew1 | refine below_set ?_ GE140.out) | exact HB.out)⟩
    · rw [if_neg c6] at H
      have c6b0 : decide (200 < (a2.size : Int)) = false := decide_eq_false c6
      have c6b1 : decide (200 < a2.size) = false := decide_eq_false (by omega)
      clear c6
      replace H := Option.bind_eq_some_iff.mp H
      obtain ⟨t144, A90, H⟩ := H
      replace H : ((hash_Row_Of.f k (IntKind.u64.wrap ((Int.tmod a0 2305843009213693950) + 1)) 1 0 a2).bind fun t145 => ((weighbridgeref02_Mul.f k t145 (IntKind.u64.wrap ((Int.tmod a1_0 2305843009213693950) + 1))).bind fun t146 => (if t144 = (Int.tmod (IntKind.u64.wrap (t146 + (Int.tmod a1_1 2305843009213693951))) 2305843009213693951) then ((hash_Row_Bucket.f k (IntKind.u64.wrap ((Int.tmod a0 2305843009213693950) + 1)) (IntKind.u64.wrap ((Int.tmod a1_0 2305843009213693950) + 1)) (Int.tmod a1_1 2305843009213693951) a2 100).bind fun t147 => ((hash_Row_Of.f k (IntKind.u64.wrap ((Int.tmod a0 2305843009213693950) + 1)) (IntKind.u64.wrap ((Int.tmod a1_0 2305843009213693950) + 1)) (Int.tmod a1_1 2305843009213693951) a2).bind fun t148 => ((hash_Place.f k t148 100).bind fun t149 => (if t147 = t149 then ((hash_Row_Bucket.f k (IntKind.u64.wrap ((Int.tmod a0 2305843009213693950) + 1)) (IntKind.u64.wrap ((Int.tmod a1_0 2305843009213693950) + 1)) (Int.tmod a1_1 2305843009213693951) a2 1).bind fun t150 => (some (t150 == 0))) else (some false))))) else (some false)))) = some r := H
      have A9 := Aside0.mk A90
      clear A90
      replace H := Option.bind_eq_some_iff.mp H
      obtain ⟨t145, A100, H⟩ := H
      replace H : ((weighbridgeref02_Mul.f k t145 (IntKind.u64.wrap ((Int.tmod a1_0 2305843009213693950) + 1))).bind fun t146 => (if t144 = (Int.tmod (IntKind.u64.wrap (t146 + (Int.tmod a1_1 2305843009213693951))) 2305843009213693951) then ((hash_Row_Bucket.f k (IntKind.u64.wrap ((Int.tmod a0 2305843009213693950) + 1)) (IntKind.u64.wrap ((Int.tmod a1_0 2305843009213693950) + 1)) (Int.tmod a1_1 2305843009213693951) a2 100).bind fun t147 => ((hash_Row_Of.f k (IntKind.u64.wrap ((Int.tmod a0 2305843009213693950) + 1)) (IntKind.u64.wrap ((Int.tmod a1_0 2305843009213693950) + 1)) (Int.tmod a1_1 2305843009213693951) a2).bind fun t148 => ((hash_Place.f k t148 100).bind fun t149 => (if t147 = t149 then ((hash_Row_Bucket.f k (IntKind.u64.wrap ((Int.tmod a0 2305843009213693950) + 1)) (IntKind.u64.wrap ((Int.tmod a1_0 2305843009213693950) + 1)) (Int.tmod a1_1 2305843009213693951) a2 1).bind fun t150 => (some (t150 == 0))) else (some false))))) else (some false))) = some r := H
      have A10 := Aside0.mk A100
      clear A100
      replace H := Option.bind_eq_some_iff.mp H
      obtain ⟨t146, A110, H⟩ := H
      replace H : (if t144 = (Int.tmod (IntKind.u64.wrap (t146 + (Int.tmod a1_1 2305843009213693951))) 2305843009213693951) then ((hash_Row_Bucket.f k (IntKind.u64.wrap ((Int.tmod a0 2305843009213693950) + 1)) (IntKind.u64.wrap ((Int.tmod a1_0 2305843009213693950) + 1)) (Int.tmod a1_1 2305843009213693951) a2 100).bind fun t147 => ((hash_Row_Of.f k (IntKind.u64.wrap ((Int.tmod a0 2305843009213693950) + 1)) (IntKind.u64.wrap ((Int.tmod a1_0 2305843009213693950) + 1)) (Int.tmod a1_1 2305843009213693951) a2).bind fun t148 => ((hash_Place.f k t148 100).bind fun t149 => (if t147 = t149 then ((hash_Row_Bucket.f k (IntKind.u64.wrap ((Int.tmod a0 2305843009213693950) + 1)) (IntKind.u64.wrap ((Int.tmod a1_0 2305843009213693950) + 1)) (Int.tmod a1_1 2305843009213693951) a2 1).bind fun t150 => (some (t150 == 0))) else (some false))))) else (some false)) = some r := H
      have A11 := Aside0.mk A110
      clear A110
      by_cases c12 : t144 = (Int.tmod (IntKind.u64.wrap (t146 + (Int.tmod a1_1 2305843009213693951))) 2305843009213693951)
      · rw [if_pos c12] at H
        have c12b0 : (t144 == (Int.tmod (IntKind.u64.wrap (t146 + (Int.tmod a1_1 2305843009213693951))) 2305843009213693951)) = true := beq_iff_eq.mpr c12
        have c12b1 : (t144 != (Int.tmod (IntKind.u64.wrap (t146 + (Int.tmod a1_1 2305843009213693951))) 2305843009213693951)) = false := bne_eq_false_iff_eq.mpr c12
        clear c12
        replace H := Option.bind_eq_some_iff.mp H
        obtain ⟨t147, A130, H⟩ := H
        replace H : ((hash_Row_Of.f k (IntKind.u64.wrap ((Int.tmod a0 2305843009213693950) + 1)) (IntKind.u64.wrap ((Int.tmod a1_0 2305843009213693950) + 1)) (Int.tmod a1_1 2305843009213693951) a2).bind fun t148 => ((hash_Place.f k t148 100).bind fun t149 => (if t147 = t149 then ((hash_Row_Bucket.f k (IntKind.u64.wrap ((Int.tmod a0 2305843009213693950) + 1)) (IntKind.u64.wrap ((Int.tmod a1_0 2305843009213693950) + 1)) (Int.tmod a1_1 2305843009213693951) a2 1).bind fun t150 => (some (t150 == 0))) else (some false)))) = some r := H
        have A13 := Aside0.mk A130
        clear A130
        replace H := Option.bind_eq_some_iff.mp H
        obtain ⟨t148, A140, H⟩ := H
        obtain rfl : t144 = t148 := Option.some.inj (A9.out.symm.trans A140)
        replace H : ((hash_Place.f k t144 100).bind fun t149 => (if t147 = t149 then ((hash_Row_Bucket.f k (IntKind.u64.wrap ((Int.tmod a0 2305843009213693950) + 1)) (IntKind.u64.wrap ((Int.tmod a1_0 2305843009213693950) + 1)) (Int.tmod a1_1 2305843009213693951) a2 1).bind fun t150 => (some (t150 == 0))) else (some false))) = some r := H
        have A14 := Aside0.mk A140
        clear A140
        replace H := Option.bind_eq_some_iff.mp H
        obtain ⟨t149, A150, H⟩ := H
        replace H : (if t147 = t149 then ((hash_Row_Bucket.f k (IntKind.u64.wrap ((Int.tmod a0 2305843009213693950) + 1)) (IntKind.u64.wrap ((Int.tmod a1_0 2305843009213693950) + 1)) (Int.tmod a1_1 2305843009213693951) a2 1).bind fun t150 => (some (t150 == 0))) else (some false)) = some r := H
        have A15 := Aside0.mk A150
        clear A150
        by_cases c16 : t147 = t149
        · rw [if_pos c16] at H
          have c16b0 : (t147 == t149) = true := beq_iff_eq.mpr c16
          have c16b1 : (t147 != t149) = false := bne_eq_false_iff_eq.mpr c16
          clear c16
          replace H := Option.bind_eq_some_iff.mp H
          obtain ⟨t150, A170, H⟩ := H
          replace H : (some (t150 == 0)) = some r := H
          have A17 := Aside0.mk A170
          clear A170
          obtain rfl := Option.some.inj H
          go_enter Try.func5, Try.ntmps5
          try go_wp2_with (first | ((with_reducible refine gate_dst (N := 4) rfl ?_); refine box_event ?hg (N := 4) ?hd (cs := #[.int .u64 a1_0, .int .u64 a1_1]) (t := 33) ?hr ?_; (case hd => rfl); (case hg => rfl); (case hr => first | (go_simp; done) | (go_simp; rfl)); intro gb140 hg w18 hbox hb; have n0_ := Aside0.mk (below_step (by repeat (first | (with_reducible first | exact HB.out | apply below_alloc | apply pw_below_drewN | apply below_drew1) | exact HB.out)) hb); have n1_ := Aside0.mk (hbox); have n2_ := Aside0.mk ((by rw [hg]; exact (below_size (by repeat (first | (with_reducible first | exact HB.out | apply below_alloc | apply pw_below_drewN | apply below_drew1) | exact HB.out))) : w.heap.size ≤ gb140)); have n3_ := Aside0.mk ((by rw [hg]; exact (below_size (by repeat (first | (with_reducible first | exact HB.out | apply below_alloc | apply pw_below_drewN | apply below_drew1) | exact HB.out))) : w.heap.size ≤ gb140)); clear HB; have HB := n0_; have BK140 := n1_; have GW140 := n2_; have GE140 := n3_; clear n0_ n1_ n2_ n3_; clear hb hbox hg) | ((with_reducible refine gate_callee (f := 7) rfl ?_); refine goesL_ (some 9) rfl rfl Try.func7 (by kernel_rfl) rfl #[] rfl (by (try simp only [List.map_toArray, List.map_cons, List.map_nil]); first | done | rfl | (simp only [List.length_drop, List.length_take]; rfl)) ?_; (with_reducible refine (weighbridgelaw03_fit.calls k  true _ A4.out).mono ?_); rintro e w19 ⟨rfl, hb⟩; refine ⟨_, rfl, ?_⟩; have n0_ := Aside0.mk (blk_below (g := gb140) (o := .cells #[.int .u64 a1_0, .int .u64 a1_1] 33 (0, 0)) (by (with_reducible repeat (first | refine blk_drewN ?_ _ | refine blk_drew ?_ | refine blk_alloc ?_ _)); exact BK140.out) hb); have n1_ := Aside0.mk (below_step (by repeat (first | (with_reducible first | exact HB.out | apply below_alloc | apply pw_below_drewN | apply below_drew1 | refine below_set ?_ GE140.out) | exact HB.out)) hb); clear BK140; clear HB; have BK140 := n0_; have HB := n1_; clear n0_ n1_; (try clear hb); (try clear hb2); (try clear hk); (try clear hi)) | ((with_reducible refine gate_dst (N := 7) rfl ?_); refine box_event ?hg (N := 7) ?hd (cs := #[.int .u64 0, .int .u64 0, .int .u64 0]) (t := 28) ?hr ?_; (case hd => rfl); (case hg => rfl); (case hr => first | (go_simp; done) | (go_simp; rfl)); intro gb142 hg w20 hbox hb; have n0_ := Aside0.mk (blk_below (g := gb140) (o := .cells #[.int .u64 a1_0, .int .u64 a1_1] 33 (0, 0)) (by (with_reducible repeat (first | refine blk_drewN ?_ _ | refine blk_drew ?_ | refine blk_alloc ?_ _)); exact BK140.out) hb); have n1_ := Aside0.mk (below_step (by repeat (first | (with_reducible first | exact HB.out | apply below_alloc | apply pw_below_drewN | apply below_drew1 | refine below_set ?_ GE140.out) | exact HB.out)) hb); have n2_ := Aside0.mk (hbox); have n3_ := Aside0.mk ((by rw [hg]; exact (below_size (by repeat (first | (with_reducible first | exact HB.out | apply below_alloc | apply pw_below_drewN | apply below_drew1 | refine below_set ?_ GE140.out) | exact HB.out))) : w.heap.size ≤ gb142)); have n4_ := Aside0.mk ((by rw [hg]; exact (below_size (by repeat (first | (with_reducible first | exact HB.out | apply below_alloc | apply pw_below_drewN | apply below_drew1 | refine below_set ?_ GE140.out) | exact HB.out))) : w.heap.size ≤ gb142)); have n5_ := Aside0.mk ((by rw [hg]; exact Nat.ne_of_lt (blk_lt (g := gb140) (o := .cells #[.int .u64 a1_0, .int .u64 a1_1] 33 (0, 0)) (by (with_reducible repeat (first | refine blk_drewN ?_ _ | refine blk_drew ?_ | refine blk_alloc ?_ _)); exact BK140.out)) : gb140 ≠ gb142)); have n6_ := Aside0.mk ((by rw [hg]; exact Nat.ne_of_gt (blk_lt (g := gb140) (o := .cells #[.int .u64 a1_0, .int .u64 a1_1] 33 (0, 0)) (by (with_reducible repeat (first | refine blk_drewN ?_ _ | refine blk_drew ?_ | refine blk_alloc ?_ _)); exact BK140.out)) : gb142 ≠ gb140)); clear BK140; clear HB; have BK140 := n0_; have HB := n1_; have BK142 := n2_; have GW142 := n3_; have GE142 := n4_; have NB140_142 := n5_; have NB142_140 := n6_; clear n0_ n1_ n2_ n3_ n4_ n5_ n6_; clear hb hbox hg; have hnb21 := NB142_140.out; have hnc21 := NB140_142.out; have hcz22_0 : w20.cell? ⟨gb142, 0, none⟩ = some (.int .u64 0) := (blk_cell BK142.out 0).trans rfl; have hcz22_1 : w20.cell? ⟨gb142, 1, none⟩ = some (.int .u64 0) := (blk_cell BK142.out 1).trans rfl; have hcz22_2 : w20.cell? ⟨gb142, 2, none⟩ = some (.int .u64 0) := (blk_cell BK142.out 2).trans rfl; have hfz22_0 := blk_frozen BK142.out 0; have hfz22_1 := blk_frozen BK142.out 1; have hfz22_2 := blk_frozen BK142.out 2; have hcz23_0 : w20.cell? ⟨gb140, 0, none⟩ = some (.int .u64 a1_0) := (blk_cell BK140.out 0).trans rfl; have hcz23_1 : w20.cell? ⟨gb140, 1, none⟩ = some (.int .u64 a1_1) := (blk_cell BK140.out 1).trans rfl; have hfz23_0 := blk_frozen BK140.out 0; have hfz23_1 := blk_frozen BK140.out 1) | ((with_reducible refine gate_dst (N := 8) rfl ?_); refine box_event ?hg (N := 8) ?hd (cs := #[.int .u64 0, .int .u64 0, .int .u64 0]) (t := 28) ?hr ?_; (case hd => rfl); (case hg => rfl); (case hr => first | (go_simp; done) | (go_simp; rfl)); intro gb143 hg w24 hbox hb; have n0_ := Aside0.mk (blk_below (g := gb140) (o := .cells #[.int .u64 a1_0, .int .u64 a1_1] 33 (0, 0)) (by (with_reducible repeat (first | refine blk_drewN ?_ _ | refine blk_drew ?_ | refine blk_alloc ?_ _)); refine blk_far ?_ NB140_142.out _; (with_reducible repeat (first | refine blk_drewN ?_ _ | refine blk_drew ?_ | refine blk_alloc ?_ _)); refine blk_far ?_ NB140_142.out _; (with_reducible repeat (first | refine blk_drewN ?_ _ | refine blk_drew ?_ | refine blk_alloc ?_ _)); refine blk_far ?_ NB140_142.out _; (with_reducible repeat (first | refine blk_drewN ?_ _ | refine blk_drew ?_ | refine blk_alloc ?_ _)); exact BK140.out) hb); have n1_ := Aside0.mk (blk_below (g := gb142) (o := .cells #[.int .u64 (IntKind.u64.wrap ((Int.tmod a0 2305843009213693950) + 1)), .int .u64 1, .int .u64 0] 28 (0, 0)) (by (with_reducible repeat (first | refine blk_drewN ?_ _ | refine blk_drew ?_ | refine blk_alloc ?_ _)); refine blk_put (cs := #[.int .u64 (IntKind.u64.wrap ((Int.tmod a0 2305843009213693950) + 1)), .int .u64 1, .int .u64 0]) ?_ 2 _ rfl; (with_reducible repeat (first | refine blk_drewN ?_ _ | refine blk_drew ?_ | refine blk_alloc ?_ _)); refine blk_put (cs := #[.int .u64 (IntKind.u64.wrap ((Int.tmod a0 2305843009213693950) + 1)), .int .u64 0, .int .u64 0]) ?_ 1 _ rfl; (with_reducible repeat (first | refine blk_drewN ?_ _ | refine blk_drew ?_ | refine blk_alloc ?_ _)); refine blk_put (cs := #[.int .u64 0, .int .u64 0, .int .u64 0]) ?_ 0 _ rfl; (with_reducible repeat (first | refine blk_drewN ?_ _ | refine blk_drew ?_ | refine blk_alloc ?_ _)); exact BK142.out) hb); have n2_ := Aside0.mk (below_step (by repeat (first | (with_reducible first | exact HB.out | apply below_alloc | apply pw_below_drewN | apply below_drew1 | refine below_set ?_ GE140.out | refine below_set ?_ GE142.out) | exact HB.out)) hb); have n3_ := Aside0.mk (hbox); have n4_ := Aside0.mk ((by rw [hg]; exact (below_size (by repeat (first | (with_reducible first | exact HB.out | apply below_alloc | apply pw_below_drewN | apply below_drew1 | refine below_set ?_ GE140.out | refine below_set ?_ GE142.out) | exact HB.out))) : w.heap.size ≤ gb143)); have n5_ := Aside0.mk ((by rw [hg]; exact (below_size (by repeat (first | (with_reducible first | exact HB.out | apply below_alloc | apply pw_below_drewN | apply below_drew1 | refine below_set ?_ GE140.out | refine below_set ?_ GE142.out) | exact HB.out))) : w.heap.size ≤ gb143)); have n6_ := Aside0.mk ((by rw [hg]; exact Nat.ne_of_lt (blk_lt (g := gb140) (o := .cells #[.int .u64 a1_0, .int .u64 a1_1] 33 (0, 0)) (by (with_reducible repeat (first | refine blk_drewN ?_ _ | refine blk_drew ?_ | refine blk_alloc ?_ _)); refine blk_far ?_ NB140_142.out _; (with_reducible repeat (first | refine blk_drewN ?_ _ | refine blk_drew ?_ | refine blk_alloc ?_ _)); refine blk_far ?_ NB140_142.out _; (with_reducible repeat (first | refine blk_drewN ?_ _ | refine blk_drew ?_ | refine blk_alloc ?_ _)); refine blk_far ?_ NB140_142.out _; (with_reducible repeat (first | refine blk_drewN ?_ _ | refine blk_drew ?_ | refine blk_alloc ?_ _)); exact BK140.out)) : gb140 ≠ gb143)); have n7_ := Aside0.mk ((by rw [hg]; exact Nat.ne_of_gt (blk_lt (g := gb140) (o := .cells #[.int .u64 a1_0, .int .u64 a1_1] 33 (0, 0)) (by (with_reducible repeat (first | refine blk_drewN ?_ _ | refine blk_drew ?_ | refine blk_alloc ?_ _)); refine blk_far ?_ NB140_142.out _; (with_reducible repeat (first | refine blk_drewN ?_ _ | refine blk_drew ?_ | refine blk_alloc ?_ _)); refine blk_far ?_ NB140_142.out _; (with_reducible repeat (first | refine blk_drewN ?_ _ | refine blk_drew ?_ | refine blk_alloc ?_ _)); refine blk_far ?_ NB140_142.out _; (with_reducible repeat (first | refine blk_drewN ?_ _ | refine blk_drew ?_ | refine blk_alloc ?_ _)); exact BK140.out)) : gb143 ≠ gb140)); have n8_ := Aside0.mk ((by rw [hg]; exact Nat.ne_of_lt (blk_lt (g := gb142) (o := .cells #[.int .u64 (IntKind.u64.wrap ((Int.tmod a0 2305843009213693950) + 1)), .int .u64 1, .int .u64 0] 28 (0, 0)) (by (with_reducible repeat (first | refine blk_drewN ?_ _ | refine blk_drew ?_ | refine blk_alloc ?_ _)); refine blk_put (cs := #[.int .u64 (IntKind.u64.wrap ((Int.tmod a0 2305843009213693950) + 1)), .int .u64 1, .int .u64 0]) ?_ 2 _ rfl; (with_reducible repeat (first | refine blk_drewN ?_ _ | refine blk_drew ?_ | refine blk_alloc ?_ _)); refine blk_put (cs := #[.int .u64 (IntKind.u64.wrap ((Int.tmod a0 2305843009213693950) + 1)), .int .u64 0, .int .u64 0]) ?_ 1 _ rfl; (with_reducible repeat (first | refine blk_drewN ?_ _ | refine blk_drew ?_ | refine blk_alloc ?_ _)); refine blk_put (cs := #[.int .u64 0, .int .u64 0, .int .u64 0]) ?_ 0 _ rfl; (with_reducible repeat (first | refine blk_drewN ?_ _ | refine blk_drew ?_ | refine blk_alloc ?_ _)); exact BK142.out)) : gb142 ≠ gb143)); have n9_ := Aside0.mk ((by rw [hg]; exact Nat.ne_of_gt (blk_lt (g := gb142) (o := .cells #[.int .u64 (IntKind.u64.wrap ((Int.tmod a0 2305843009213693950) + 1)), .int .u64 1, .int .u64 0] 28 (0, 0)) (by (with_reducible repeat (first | refine blk_drewN ?_ _ | refine blk_drew ?_ | refine blk_alloc ?_ _)); refine blk_put (cs := #[.int .u64 (IntKind.u64.wrap ((Int.tmod a0 2305843009213693950) + 1)), .int .u64 1, .int .u64 0]) ?_ 2 _ rfl; (with_reducible repeat (first | refine blk_drewN ?_ _ | refine blk_drew ?_ | refine blk_alloc ?_ _)); refine blk_put (cs := #[.int .u64 (IntKind.u64.wrap ((Int.tmod a0 2305843009213693950) + 1)), .int .u64 0, .int .u64 0]) ?_ 1 _ rfl; (with_reducible repeat (first | refine blk_drewN ?_ _ | refine blk_drew ?_ | refine blk_alloc ?_ _)); refine blk_put (cs := #[.int .u64 0, .int .u64 0, .int .u64 0]) ?_ 0 _ rfl; (with_reducible repeat (first | refine blk_drewN ?_ _ | refine blk_drew ?_ | refine blk_alloc ?_ _)); exact BK142.out)) : gb143 ≠ gb142)); clear BK140; clear BK142; clear HB; have BK140 := n0_; have BK142 := n1_; have HB := n2_; have BK143 := n3_; have GW143 := n4_; have GE143 := n5_; have NB140_143 := n6_; have NB143_140 := n7_; have NB142_143 := n8_; have NB143_142 := n9_; clear n0_ n1_ n2_ n3_ n4_ n5_ n6_ n7_ n8_ n9_; clear hb hbox hg; have hnb25 := NB143_140.out; have hnc25 := NB140_143.out; have hnb26 := NB143_142.out; have hnc26 := NB142_143.out; have hcz27_0 : w24.cell? ⟨gb143, 0, none⟩ = some (.int .u64 0) := (blk_cell BK143.out 0).trans rfl; have hcz27_1 : w24.cell? ⟨gb143, 1, none⟩ = some (.int .u64 0) := (blk_cell BK143.out 1).trans rfl; have hcz27_2 : w24.cell? ⟨gb143, 2, none⟩ = some (.int .u64 0) := (blk_cell BK143.out 2).trans rfl; have hfz27_0 := blk_frozen BK143.out 0; have hfz27_1 := blk_frozen BK143.out 1; have hfz27_2 := blk_frozen BK143.out 2))
          have n0_ : Aside0 ((((w24.setCell ⟨gb143, 0, none⟩ (.int .u64 (IntKind.u64.wrap ((Int.tmod a0 2305843009213693950) + 1)))).setCell ⟨gb143, 1, none⟩ (.int .u64 (IntKind.u64.wrap ((Int.tmod a1_0 2305843009213693950) + 1)))).setCell ⟨gb143, 2, none⟩ (.int .u64 (Int.tmod a1_1 2305843009213693951))).heap[gb140]? = some (.cells #[.int .u64 a1_0, .int .u64 a1_1] 33 (0, 0))) := ⟨by (with_reducible repeat (first | refine blk_drewN ?_ _ | refine blk_drew ?_ | refine blk_alloc ?_ _)); refine blk_far ?_ NB140_143.out _; (with_reducible repeat (first | refine blk_drewN ?_ _ | refine blk_drew ?_ | refine blk_alloc ?_ _)); refine blk_far ?_ NB140_143.out _; (with_reducible repeat (first | refine blk_drewN ?_ _ | refine blk_drew ?_ | refine blk_alloc ?_ _)); refine blk_far ?_ NB140_143.out _; (with_reducible repeat (first | refine blk_drewN ?_ _ | refine blk_drew ?_ | refine blk_alloc ?_ _)); exact BK140.out⟩
          have n1_ : Aside0 ((((w24.setCell ⟨gb143, 0, none⟩ (.int .u64 (IntKind.u64.wrap ((Int.tmod a0 2305843009213693950) + 1)))).setCell ⟨gb143, 1, none⟩ (.int .u64 (IntKind.u64.wrap ((Int.tmod a1_0 2305843009213693950) + 1)))).setCell ⟨gb143, 2, none⟩ (.int .u64 (Int.tmod a1_1 2305843009213693951))).heap[gb142]? = some (.cells #[.int .u64 (IntKind.u64.wrap ((Int.tmod a0 2305843009213693950) + 1)), .int .u64 1, .int .u64 0] 28 (0, 0))) := ⟨by (with_reducible repeat (first | refine blk_drewN ?_ _ | refine blk_drew ?_ | refine blk_alloc ?_ _)); refine blk_far ?_ NB142_143.out _; (with_reducible repeat (first | refine blk_drewN ?_ _ | refine blk_drew ?_ | refine blk_alloc ?_ _)); refine blk_far ?_ NB142_143.out _; (with_reducible repeat (first | refine blk_drewN ?_ _ | refine blk_drew ?_ | refine blk_alloc ?_ _)); refine blk_far ?_ NB142_143.out _; (with_reducible repeat (first | refine blk_drewN ?_ _ | refine blk_drew ?_ | refine blk_alloc ?_ _)); exact BK142.out⟩
          have n2_ : Aside0 ((((w24.setCell ⟨gb143, 0, none⟩ (.int .u64 (IntKind.u64.wrap ((Int.tmod a0 2305843009213693950) + 1)))).setCell ⟨gb143, 1, none⟩ (.int .u64 (IntKind.u64.wrap ((Int.tmod a1_0 2305843009213693950) + 1)))).setCell ⟨gb143, 2, none⟩ (.int .u64 (Int.tmod a1_1 2305843009213693951))).heap[gb143]? = some (.cells #[.int .u64 (IntKind.u64.wrap ((Int.tmod a0 2305843009213693950) + 1)), .int .u64 (IntKind.u64.wrap ((Int.tmod a1_0 2305843009213693950) + 1)), .int .u64 (Int.tmod a1_1 2305843009213693951)] 28 (0, 0))) := ⟨by (with_reducible repeat (first | refine blk_drewN ?_ _ | refine blk_drew ?_ | refine blk_alloc ?_ _)); refine blk_put (cs := #[.int .u64 (IntKind.u64.wrap ((Int.tmod a0 2305843009213693950) + 1)), .int .u64 (IntKind.u64.wrap ((Int.tmod a1_0 2305843009213693950) + 1)), .int .u64 0]) ?_ 2 _ rfl; (with_reducible repeat (first | refine blk_drewN ?_ _ | refine blk_drew ?_ | refine blk_alloc ?_ _)); refine blk_put (cs := #[.int .u64 (IntKind.u64.wrap ((Int.tmod a0 2305843009213693950) + 1)), .int .u64 0, .int .u64 0]) ?_ 1 _ rfl; (with_reducible repeat (first | refine blk_drewN ?_ _ | refine blk_drew ?_ | refine blk_alloc ?_ _)); refine blk_put (cs := #[.int .u64 0, .int .u64 0, .int .u64 0]) ?_ 0 _ rfl; (with_reducible repeat (first | refine blk_drewN ?_ _ | refine blk_drew ?_ | refine blk_alloc ?_ _)); exact BK143.out⟩
          have n3_ : Aside0 (Below w.heap.size w (((w24.setCell ⟨gb143, 0, none⟩ (.int .u64 (IntKind.u64.wrap ((Int.tmod a0 2305843009213693950) + 1)))).setCell ⟨gb143, 1, none⟩ (.int .u64 (IntKind.u64.wrap ((Int.tmod a1_0 2305843009213693950) + 1)))).setCell ⟨gb143, 2, none⟩ (.int .u64 (Int.tmod a1_1 2305843009213693951)))) := ⟨by repeat (first | (with_reducible first | exact HB.out | apply below_alloc | apply pw_below_drewN | apply below_drew1 | refine below_set ?_ GE140.out | refine below_set ?_ GE142.out | refine below_set ?_ GE143.out) | exact HB.out)⟩
          (try clear BK140)
          (try clear BK142)
          (try clear BK143)
          (try clear HB)
          generalize (((w24.setCell ⟨gb143, 0, none⟩ (.int .u64 (IntKind.u64.wrap ((Int.tmod a0 2305843009213693950) + 1)))).setCell ⟨gb143, 1, none⟩ (.int .u64 (IntKind.u64.wrap ((Int.tmod a1_0 2305843009213693950) + 1)))).setCell ⟨gb143, 2, none⟩ (.int .u64 (Int.tmod a1_1 2305843009213693951))) = w28 at n0_ n1_ n2_ n3_ ⊢
          have BK140 := n0_
          have BK142 := n1_
          have BK143 := n2_
          have HB := n3_
          clear n0_ n1_ n2_ n3_
          have n0_ := Aside0.mk (blk_drew BK140.out)
          have n1_ := Aside0.mk (blk_drew BK142.out)
          have n2_ := Aside0.mk (blk_drew BK143.out)
          have n3_ := Aside0.mk (below_drew1 HB.out)
          clear BK140
          clear BK142
          clear BK143
          clear HB
          have BK140 := n0_
          have BK142 := n1_
          have BK143 := n2_
          have HB := n3_
          clear n0_ n1_ n2_ n3_
          refine start_ (n := 31) (S := fun w' => w'.cell? ⟨gb143, 0, none⟩ = some (.int .u64 (IntKind.u64.wrap ((Int.tmod a0 2305843009213693950) + 1))) ∧ w'.cell? ⟨gb143, 1, none⟩ = some (.int .u64 (IntKind.u64.wrap ((Int.tmod a1_0 2305843009213693950) + 1))) ∧ w'.cell? ⟨gb143, 2, none⟩ = some (.int .u64 (Int.tmod a1_1 2305843009213693951)) ∧ w'.cell? ⟨gb142, 0, none⟩ = some (.int .u64 (IntKind.u64.wrap ((Int.tmod a0 2305843009213693950) + 1))) ∧ w'.cell? ⟨gb142, 1, none⟩ = some (.int .u64 1) ∧ w'.cell? ⟨gb142, 2, none⟩ = some (.int .u64 0)) (ds := []) #[false, false, false, false, false, false, false, false, false, false, false, false, false, false, false, false, false, false, false, false, false, false, false, false, false, false, false, false, false, false, false] (by kernel_rfl) rfl rfl ⟨(blk_cell BK143.out 0).trans rfl, (blk_cell BK143.out 1).trans rfl, (blk_cell BK143.out 2).trans rfl, (blk_cell BK142.out 0).trans rfl, (blk_cell BK142.out 1).trans rfl, (blk_cell BK142.out 2).trans rfl⟩ (fun hHeld => ?_); refine with_tabW weighbridgelaw03_HashLines.tab7 weighbridgelaw03_HashLines.bits7 (fun HT_ HW_ => ?_)
          generalize w28.drew = w29 at BK140 BK142 BK143 HB hHeld ⊢
          refine pure_ (i := 1) (N := some 29) (v := ?_) (a' := ?_) #[false, true, false, false, false, false, false, false, false, false, false, false, false, false, false, false, false, false, false, false, false, false, false, false, false, false, false, false, false, false, false] rfl rfl (any_of HT_.out (by kernel_rfl)) (fun _ _ _ h => h) (Or.inl ⟨by rfl, ?_⟩) ?_ ?_
          rotate_left
          · intro w'
            go_simp
            with_reducible rfl
          rotate_left
          · simp only [Act.put, List.setIfInBounds_toArray, List.set_cons_zero, List.set_cons_succ, i64_w, i32_w]
            rfl
          refine pure_ (i := 4) (N := some 32) (v := ?_) (a' := ?_) #[false, true, false, false, true, false, false, false, false, false, false, false, false, false, false, false, false, false, false, false, false, false, false, false, false, false, false, false, false, false, false] rfl rfl (any_of HT_.out (by kernel_rfl)) (fun _ _ _ h => h) (Or.inl ⟨by rfl, ?_⟩) ?_ ?_
          rotate_left
          · intro w'
            go_simp
            with_reducible rfl
          rotate_left
          · simp only [Act.put, List.setIfInBounds_toArray, List.set_cons_zero, List.set_cons_succ, i64_w, i32_w]
            rfl
          refine pure_ (i := 6) (N := some 34) (v := ?_) (a' := ?_) #[false, true, false, false, true, false, true, false, false, false, false, false, false, false, false, false, false, false, false, false, false, false, false, false, false, false, false, false, false, false, false] rfl rfl (any_of HT_.out (by kernel_rfl)) (fun _ _ _ h => h) (Or.inl ⟨by rfl, ?_⟩) ?_ ?_
          rotate_left
          · intro w'
            go_simp
            with_reducible rfl
          rotate_left
          · simp only [Act.put, List.setIfInBounds_toArray, List.set_cons_zero, List.set_cons_succ, i64_w, i32_w]
            rfl
          refine pure_ (i := 9) (N := some 37) (v := ?_) (a' := ?_) #[false, true, false, false, true, false, true, false, false, true, false, false, false, false, false, false, false, false, false, false, false, false, false, false, false, false, false, false, false, false, false] rfl rfl (any_of HT_.out (by kernel_rfl)) (fun _ _ _ h => h) (Or.inl ⟨by rfl, ?_⟩) ?_ ?_
          rotate_left
          · intro w'
            go_simp
            with_reducible rfl
          rotate_left
          · simp only [Act.put, List.setIfInBounds_toArray, List.set_cons_zero, List.set_cons_succ, i64_w, i32_w]
            rfl
          refine take_ (i := 0) (N := some 28) (v := ?_) (a' := ?_) #[true, true, false, false, true, false, true, false, false, true, false, false, false, false, false, false, false, false, false, false, false, false, false, false, false, false, false, false, false, false, false] rfl rfl (take_ofW HT_.out HW_.out (by kernel_rfl)) (fun _ _ _ h => h) (Or.inl ⟨by rfl, ?_⟩) hHeld ?_ ?_
          rotate_left
          · rintro w' ⟨s0, s1, s2, s3, s4, s5⟩
            go_simp
            with_reducible rfl
          rotate_left
          · simp only [Act.put, List.setIfInBounds_toArray, List.set_cons_zero, List.set_cons_succ, i64_w, i32_w]
            rfl
          refine take_ (i := 3) (N := some 31) (v := ?_) (a' := ?_) #[true, true, false, true, true, false, true, false, false, true, false, false, false, false, false, false, false, false, false, false, false, false, false, false, false, false, false, false, false, false, false] rfl rfl (take_ofW HT_.out HW_.out (by kernel_rfl)) (fun _ _ _ h => h) (Or.inl ⟨by rfl, ?_⟩) hHeld ?_ ?_
          rotate_left
          · rintro w' ⟨s0, s1, s2, s3, s4, s5⟩
            go_simp
            with_reducible rfl
          rotate_left
          · simp only [Act.put, List.setIfInBounds_toArray, List.set_cons_zero, List.set_cons_succ, i64_w, i32_w]
            rfl
          refine take_ (i := 7) (N := some 35) (v := ?_) (a' := ?_) #[true, true, false, true, true, false, true, true, false, true, false, false, false, false, false, false, false, false, false, false, false, false, false, false, false, false, false, false, false, false, false] rfl rfl (take_ofW HT_.out HW_.out (by kernel_rfl)) (fun _ _ _ h => h) (Or.inl ⟨by rfl, ?_⟩) hHeld ?_ ?_
          rotate_left
          · rintro w' ⟨s0, s1, s2, s3, s4, s5⟩
            go_simp
            with_reducible rfl
          rotate_left
          · simp only [Act.put, List.setIfInBounds_toArray, List.set_cons_zero, List.set_cons_succ, i64_w, i32_w]
            rfl
          refine take_ (i := 10) (N := some 38) (v := ?_) (a' := ?_) #[true, true, false, true, true, false, true, true, false, true, true, false, false, false, false, false, false, false, false, false, false, false, false, false, false, false, false, false, false, false, false] rfl rfl (take_ofW HT_.out HW_.out (by kernel_rfl)) (fun _ _ _ h => h) (Or.inl ⟨by rfl, ?_⟩) hHeld ?_ ?_
          rotate_left
          · rintro w' ⟨s0, s1, s2, s3, s4, s5⟩
            go_simp
            with_reducible rfl
          rotate_left
          · simp only [Act.put, List.setIfInBounds_toArray, List.set_cons_zero, List.set_cons_succ, i64_w, i32_w]
            rfl
          refine one_ (i := 2) (N := some 30) #[true, true, true, true, true, false, true, true, false, true, true, false, false, false, false, false, false, false, false, false, false, false, false, false, false, false, false, false, false, false, false] rfl rfl (one_of HT_.out (by kernel_rfl)) (by decide) (fun K hK => ?_)
          refine goes_ Try.func9 (by kernel_rfl) rfl #[.agg #[.int .u64 (IntKind.u64.wrap ((Int.tmod a0 2305843009213693950) + 1)), .int .u64 (IntKind.u64.wrap ((Int.tmod a1_0 2305843009213693950) + 1)), .int .u64 (Int.tmod a1_1 2305843009213693951)], .string a2] (by rfl) rfl rfl (by (try simp only [List.map_toArray, List.map_cons, List.map_nil]); first | done | rfl | (simp only [List.length_drop, List.length_take]; rfl)) ?_
          with_reducible refine (hash_Row_Of.calls k (IntKind.u64.wrap ((Int.tmod a0 2305843009213693950) + 1)) (IntKind.u64.wrap ((Int.tmod a1_0 2305843009213693950) + 1)) (Int.tmod a1_1 2305843009213693951) a2 t144 _ A9.out).mono ?_
          rintro e w30 ⟨rfl, hb⟩
          refine ⟨_, rfl, ?_⟩
          have n0_ := Aside0.mk (blk_below (g := gb140) (o := .cells #[.int .u64 a1_0, .int .u64 a1_1] 33 (0, 0)) (by (with_reducible repeat (first | refine blk_drewN ?_ _ | refine blk_drew ?_ | refine blk_alloc ?_ _)); exact BK140.out) hb)
          have n1_ := Aside0.mk (blk_below (g := gb142) (o := .cells #[.int .u64 (IntKind.u64.wrap ((Int.tmod a0 2305843009213693950) + 1)), .int .u64 1, .int .u64 0] 28 (0, 0)) (by (with_reducible repeat (first | refine blk_drewN ?_ _ | refine blk_drew ?_ | refine blk_alloc ?_ _)); exact BK142.out) hb)
          have n2_ := Aside0.mk (blk_below (g := gb143) (o := .cells #[.int .u64 (IntKind.u64.wrap ((Int.tmod a0 2305843009213693950) + 1)), .int .u64 (IntKind.u64.wrap ((Int.tmod a1_0 2305843009213693950) + 1)), .int .u64 (Int.tmod a1_1 2305843009213693951)] 28 (0, 0)) (by (with_reducible repeat (first | refine blk_drewN ?_ _ | refine blk_drew ?_ | refine blk_alloc ?_ _)); exact BK143.out) hb)
          have n3_ := Aside0.mk (below_step (by repeat (first | (with_reducible first | exact HB.out | apply below_alloc | apply pw_below_drewN | apply below_drew1 | refine below_set ?_ GE140.out | refine below_set ?_ GE142.out | refine below_set ?_ GE143.out) | exact HB.out)) hb)
          clear BK140
          clear BK142
          clear BK143
          clear HB
          have BK140 := n0_
          have BK142 := n1_
          have BK143 := n2_
          have HB := n3_
          clear n0_ n1_ n2_ n3_
          (try clear hb)
          (try clear hb2)
          (try clear hk)
          (try clear hi)
          refine hK.out _ _ ⟨(blk_cell BK143.out 0).trans rfl, (blk_cell BK143.out 1).trans rfl, (blk_cell BK143.out 2).trans rfl, (blk_cell BK142.out 0).trans rfl, (blk_cell BK142.out 1).trans rfl, (blk_cell BK142.out 2).trans rfl⟩ (fun hHeld => ?_)
          clear hK K
          refine norm_ (a' := ?_) ?_ ?_
          rotate_left
          · show Act.put _ (some 30) _ = _
            simp only [Act.put, List.setIfInBounds_toArray, List.set_cons_zero, List.set_cons_succ, i64_w, i32_w]
            rfl
          refine one_ (i := 5) (N := some 33) #[true, true, true, true, true, true, true, true, false, true, true, false, false, false, false, false, false, false, false, false, false, false, false, false, false, false, false, false, false, false, false] rfl rfl (one_of HT_.out (by kernel_rfl)) (by decide) (fun K hK => ?_)
          refine goes_ Try.func9 (by kernel_rfl) rfl #[.agg #[.int .u64 (IntKind.u64.wrap ((Int.tmod a0 2305843009213693950) + 1)), .int .u64 1, .int .u64 0], .string a2] (by rfl) rfl rfl (by (try simp only [List.map_toArray, List.map_cons, List.map_nil]); first | done | rfl | (simp only [List.length_drop, List.length_take]; rfl)) ?_
          with_reducible refine (hash_Row_Of.calls k (IntKind.u64.wrap ((Int.tmod a0 2305843009213693950) + 1)) 1 0 a2 t145 _ A10.out).mono ?_
          rintro e w31 ⟨rfl, hb⟩
          refine ⟨_, rfl, ?_⟩
          have n0_ := Aside0.mk (blk_below (g := gb140) (o := .cells #[.int .u64 a1_0, .int .u64 a1_1] 33 (0, 0)) (by (with_reducible repeat (first | refine blk_drewN ?_ _ | refine blk_drew ?_ | refine blk_alloc ?_ _)); exact BK140.out) hb)
          have n1_ := Aside0.mk (blk_below (g := gb142) (o := .cells #[.int .u64 (IntKind.u64.wrap ((Int.tmod a0 2305843009213693950) + 1)), .int .u64 1, .int .u64 0] 28 (0, 0)) (by (with_reducible repeat (first | refine blk_drewN ?_ _ | refine blk_drew ?_ | refine blk_alloc ?_ _)); exact BK142.out) hb)
          have n2_ := Aside0.mk (blk_below (g := gb143) (o := .cells #[.int .u64 (IntKind.u64.wrap ((Int.tmod a0 2305843009213693950) + 1)), .int .u64 (IntKind.u64.wrap ((Int.tmod a1_0 2305843009213693950) + 1)), .int .u64 (Int.tmod a1_1 2305843009213693951)] 28 (0, 0)) (by (with_reducible repeat (first | refine blk_drewN ?_ _ | refine blk_drew ?_ | refine blk_alloc ?_ _)); exact BK143.out) hb)
          have n3_ := Aside0.mk (below_step (by repeat (first | (with_reducible first | exact HB.out | apply below_alloc | apply pw_below_drewN | apply below_drew1 | refine below_set ?_ GE140.out | refine below_set ?_ GE142.out | refine below_set ?_ GE143.out) | exact HB.out)) hb)
          clear BK140
          clear BK142
          clear BK143
          clear HB
          have BK140 := n0_
          have BK142 := n1_
          have BK143 := n2_
          have HB := n3_
          clear n0_ n1_ n2_ n3_
          (try clear hb)
          (try clear hb2)
          (try clear hk)
          (try clear hi)
          refine hK.out _ _ ⟨(blk_cell BK143.out 0).trans rfl, (blk_cell BK143.out 1).trans rfl, (blk_cell BK143.out 2).trans rfl, (blk_cell BK142.out 0).trans rfl, (blk_cell BK142.out 1).trans rfl, (blk_cell BK142.out 2).trans rfl⟩ (fun hHeld => ?_)
          clear hK K
          refine norm_ (a' := ?_) ?_ ?_
          rotate_left
          · show Act.put _ (some 33) _ = _
            simp only [Act.put, List.setIfInBounds_toArray, List.set_cons_zero, List.set_cons_succ, i64_w, i32_w]
            rfl
          refine one_ (i := 8) (N := some 36) #[true, true, true, true, true, true, true, true, true, true, true, false, false, false, false, false, false, false, false, false, false, false, false, false, false, false, false, false, false, false, false] rfl rfl (one_of HT_.out (by kernel_rfl)) (by decide) (fun K hK => ?_)
          refine goes_ Try.func11 (by kernel_rfl) rfl #[.int .u64 t145, .int .u64 (IntKind.u64.wrap ((Int.tmod a1_0 2305843009213693950) + 1))] (by rfl) rfl rfl (by (try simp only [List.map_toArray, List.map_cons, List.map_nil]); first | done | rfl | (simp only [List.length_drop, List.length_take]; rfl)) ?_
          with_reducible refine (weighbridgeref02_Mul.calls k t145 (IntKind.u64.wrap ((Int.tmod a1_0 2305843009213693950) + 1)) t146 _ A11.out).mono ?_
          rintro e w' ⟨rfl, ⟨nd, rfl⟩⟩
          refine ⟨_, rfl, ?_⟩
          refine hK.out _ _ ⟨(blk_cell BK143.out 0).trans rfl, (blk_cell BK143.out 1).trans rfl, (blk_cell BK143.out 2).trans rfl, (blk_cell BK142.out 0).trans rfl, (blk_cell BK142.out 1).trans rfl, (blk_cell BK142.out 2).trans rfl⟩ (fun hHeld => ?_)
          clear hK K
          refine norm_ (a' := ?_) ?_ ?_
          rotate_left
          · show Act.put _ (some 36) _ = _
            simp only [Act.put, List.setIfInBounds_toArray, List.set_cons_zero, List.set_cons_succ, i64_w, i32_w]
            rfl
          refine pure_ (i := 11) (N := some 39) (v := ?_) (a' := ?_) #[true, true, true, true, true, true, true, true, true, true, true, true, false, false, false, false, false, false, false, false, false, false, false, false, false, false, false, false, false, false, false] rfl rfl (any_of HT_.out (by kernel_rfl)) (fun _ _ _ h => h) (Or.inl ⟨by rfl, ?_⟩) ?_ ?_
          rotate_left
          · intro w'
            go_simp
            with_reducible rfl
          rotate_left
          · simp only [Act.put, List.setIfInBounds_toArray, List.set_cons_zero, List.set_cons_succ, i64_w, i32_w]
            rfl
          refine pure_ (i := 12) (N := some 40) (v := ?_) (a' := ?_) #[true, true, true, true, true, true, true, true, true, true, true, true, true, false, false, false, false, false, false, false, false, false, false, false, false, false, false, false, false, false, false] rfl rfl (any_of HT_.out (by kernel_rfl)) (fun _ _ _ h => h) (Or.inl ⟨by rfl, ?_⟩) ?_ ?_
          rotate_left
          · intro w'
            go_simp
            with_reducible rfl
          rotate_left
          · simp only [Act.put, List.setIfInBounds_toArray, List.set_cons_zero, List.set_cons_succ, i64_w, i32_w]
            rfl
          refine pure_ (i := 13) (N := some 41) (v := ?_) (a' := ?_) #[true, true, true, true, true, true, true, true, true, true, true, true, true, true, false, false, false, false, false, false, false, false, false, false, false, false, false, false, false, false, false] rfl rfl (any_of HT_.out (by kernel_rfl)) (fun _ _ _ h => h) (Or.inl ⟨by rfl, ?_⟩) ?_ ?_
          rotate_left
          · intro w'
            go_simp
            with_reducible rfl
          rotate_left
          · simp only [Act.put, List.setIfInBounds_toArray, List.set_cons_zero, List.set_cons_succ, i64_w, i32_w]
            rfl
          refine pure_ (i := 14) (N := some 42) (v := ?_) (a' := ?_) #[true, true, true, true, true, true, true, true, true, true, true, true, true, true, true, false, false, false, false, false, false, false, false, false, false, false, false, false, false, false, false] rfl rfl (any_of HT_.out (by kernel_rfl)) (fun _ _ _ h => h) (Or.inl ⟨by rfl, ?_⟩) ?_ ?_
          rotate_left
          · intro w'
            go_simp
            with_reducible rfl
          rotate_left
          · simp only [Act.put, List.setIfInBounds_toArray, List.set_cons_zero, List.set_cons_succ, i64_w, i32_w]
            rfl
          refine pure_ (i := 16) (N := some 44) (v := ?_) (a' := ?_) #[true, true, true, true, true, true, true, true, true, true, true, true, true, true, true, false, true, false, false, false, false, false, false, false, false, false, false, false, false, false, false] rfl rfl (any_of HT_.out (by kernel_rfl)) (fun _ _ _ h => h) (Or.inl ⟨by rfl, ?_⟩) ?_ ?_
          rotate_left
          · intro w'
            go_simp
            with_reducible rfl
          rotate_left
          · simp only [Act.put, List.setIfInBounds_toArray, List.set_cons_zero, List.set_cons_succ, i64_w, i32_w]
            rfl
          refine pure_ (i := 19) (N := some 47) (v := ?_) (a' := ?_) #[true, true, true, true, true, true, true, true, true, true, true, true, true, true, true, false, true, false, false, true, false, false, false, false, false, false, false, false, false, false, false] rfl rfl (any_of HT_.out (by kernel_rfl)) (fun _ _ _ h => h) (Or.inl ⟨by rfl, ?_⟩) ?_ ?_
          rotate_left
          · intro w'
            go_simp
            with_reducible rfl
          rotate_left
          · simp only [Act.put, List.setIfInBounds_toArray, List.set_cons_zero, List.set_cons_succ, i64_w, i32_w]
            rfl
          refine take_ (i := 15) (N := some 43) (v := ?_) (a' := ?_) #[true, true, true, true, true, true, true, true, true, true, true, true, true, true, true, true, true, false, false, true, false, false, false, false, false, false, false, false, false, false, false] rfl rfl (take_ofW HT_.out HW_.out (by kernel_rfl)) (fun _ _ _ h => h) (Or.inl ⟨by rfl, ?_⟩) hHeld ?_ ?_
          rotate_left
          · rintro w' ⟨s0, s1, s2, s3, s4, s5⟩
            go_simp
            with_reducible rfl
          rotate_left
          · simp only [Act.put, List.setIfInBounds_toArray, List.set_cons_zero, List.set_cons_succ, i64_w, i32_w]
            rfl
          refine take_ (i := 18) (N := some 46) (v := ?_) (a' := ?_) #[true, true, true, true, true, true, true, true, true, true, true, true, true, true, true, true, true, false, true, true, false, false, false, false, false, false, false, false, false, false, false] rfl rfl (take_ofW HT_.out HW_.out (by kernel_rfl)) (fun _ _ _ h => h) (Or.inl ⟨by rfl, ?_⟩) hHeld ?_ ?_
          rotate_left
          · rintro w' ⟨s0, s1, s2, s3, s4, s5⟩
            go_simp
            with_reducible rfl
          rotate_left
          · simp only [Act.put, List.setIfInBounds_toArray, List.set_cons_zero, List.set_cons_succ, i64_w, i32_w]
            rfl
          refine one_ (i := 17) (N := some 45) #[true, true, true, true, true, true, true, true, true, true, true, true, true, true, true, true, true, true, true, true, false, false, false, false, false, false, false, false, false, false, false] rfl rfl (one_of HT_.out (by kernel_rfl)) (by decide) (fun K hK => ?_)
          refine goes_ Try.func12 (by kernel_rfl) rfl #[.agg #[.int .u64 (IntKind.u64.wrap ((Int.tmod a0 2305843009213693950) + 1)), .int .u64 (IntKind.u64.wrap ((Int.tmod a1_0 2305843009213693950) + 1)), .int .u64 (Int.tmod a1_1 2305843009213693951)], .string a2, .int .i64 100] (by rfl) rfl rfl (by (try simp only [List.map_toArray, List.map_cons, List.map_nil]); first | done | rfl | (simp only [List.length_drop, List.length_take]; rfl)) ?_
          with_reducible refine (hash_Row_Bucket.calls k (IntKind.u64.wrap ((Int.tmod a0 2305843009213693950) + 1)) (IntKind.u64.wrap ((Int.tmod a1_0 2305843009213693950) + 1)) (Int.tmod a1_1 2305843009213693951) a2 100 t147 _ A13.out).mono ?_
          rintro e w32 ⟨rfl, hb⟩
          refine ⟨_, rfl, ?_⟩
          have n0_ := Aside0.mk (blk_below (g := gb140) (o := .cells #[.int .u64 a1_0, .int .u64 a1_1] 33 (0, 0)) (by (with_reducible repeat (first | refine blk_drewN ?_ _ | refine blk_drew ?_ | refine blk_alloc ?_ _)); exact BK140.out) hb)
          have n1_ := Aside0.mk (blk_below (g := gb142) (o := .cells #[.int .u64 (IntKind.u64.wrap ((Int.tmod a0 2305843009213693950) + 1)), .int .u64 1, .int .u64 0] 28 (0, 0)) (by (with_reducible repeat (first | refine blk_drewN ?_ _ | refine blk_drew ?_ | refine blk_alloc ?_ _)); exact BK142.out) hb)
          have n2_ := Aside0.mk (blk_below (g := gb143) (o := .cells #[.int .u64 (IntKind.u64.wrap ((Int.tmod a0 2305843009213693950) + 1)), .int .u64 (IntKind.u64.wrap ((Int.tmod a1_0 2305843009213693950) + 1)), .int .u64 (Int.tmod a1_1 2305843009213693951)] 28 (0, 0)) (by (with_reducible repeat (first | refine blk_drewN ?_ _ | refine blk_drew ?_ | refine blk_alloc ?_ _)); exact BK143.out) hb)
          have n3_ := Aside0.mk (below_step (by repeat (first | (with_reducible first | exact HB.out | apply below_alloc | apply pw_below_drewN | apply below_drew1 | refine below_set ?_ GE140.out | refine below_set ?_ GE142.out | refine below_set ?_ GE143.out) | exact HB.out)) hb)
          clear BK140
          clear BK142
          clear BK143
          clear HB
          have BK140 := n0_
          have BK142 := n1_
          have BK143 := n2_
          have HB := n3_
          clear n0_ n1_ n2_ n3_
          (try clear hb)
          (try clear hb2)
          (try clear hk)
          (try clear hi)
          refine hK.out _ _ ⟨(blk_cell BK143.out 0).trans rfl, (blk_cell BK143.out 1).trans rfl, (blk_cell BK143.out 2).trans rfl, (blk_cell BK142.out 0).trans rfl, (blk_cell BK142.out 1).trans rfl, (blk_cell BK142.out 2).trans rfl⟩ (fun hHeld => ?_)
          clear hK K
          refine norm_ (a' := ?_) ?_ ?_
          rotate_left
          · show Act.put _ (some 45) _ = _
            simp only [Act.put, List.setIfInBounds_toArray, List.set_cons_zero, List.set_cons_succ, i64_w, i32_w]
            rfl
          refine one_ (i := 20) (N := some 48) #[true, true, true, true, true, true, true, true, true, true, true, true, true, true, true, true, true, true, true, true, true, false, false, false, false, false, false, false, false, false, false] rfl rfl (one_of HT_.out (by kernel_rfl)) (by decide) (fun K hK => ?_)
          refine goes_ Try.func9 (by kernel_rfl) rfl #[.agg #[.int .u64 (IntKind.u64.wrap ((Int.tmod a0 2305843009213693950) + 1)), .int .u64 (IntKind.u64.wrap ((Int.tmod a1_0 2305843009213693950) + 1)), .int .u64 (Int.tmod a1_1 2305843009213693951)], .string a2] (by rfl) rfl rfl (by (try simp only [List.map_toArray, List.map_cons, List.map_nil]); first | done | rfl | (simp only [List.length_drop, List.length_take]; rfl)) ?_
          with_reducible refine (hash_Row_Of.calls k (IntKind.u64.wrap ((Int.tmod a0 2305843009213693950) + 1)) (IntKind.u64.wrap ((Int.tmod a1_0 2305843009213693950) + 1)) (Int.tmod a1_1 2305843009213693951) a2 t144 _ A14.out).mono ?_
          rintro e w33 ⟨rfl, hb⟩
          refine ⟨_, rfl, ?_⟩
          have n0_ := Aside0.mk (blk_below (g := gb140) (o := .cells #[.int .u64 a1_0, .int .u64 a1_1] 33 (0, 0)) (by (with_reducible repeat (first | refine blk_drewN ?_ _ | refine blk_drew ?_ | refine blk_alloc ?_ _)); exact BK140.out) hb)
          have n1_ := Aside0.mk (blk_below (g := gb142) (o := .cells #[.int .u64 (IntKind.u64.wrap ((Int.tmod a0 2305843009213693950) + 1)), .int .u64 1, .int .u64 0] 28 (0, 0)) (by (with_reducible repeat (first | refine blk_drewN ?_ _ | refine blk_drew ?_ | refine blk_alloc ?_ _)); exact BK142.out) hb)
          have n2_ := Aside0.mk (blk_below (g := gb143) (o := .cells #[.int .u64 (IntKind.u64.wrap ((Int.tmod a0 2305843009213693950) + 1)), .int .u64 (IntKind.u64.wrap ((Int.tmod a1_0 2305843009213693950) + 1)), .int .u64 (Int.tmod a1_1 2305843009213693951)] 28 (0, 0)) (by (with_reducible repeat (first | refine blk_drewN ?_ _ | refine blk_drew ?_ | refine blk_alloc ?_ _)); exact BK143.out) hb)
          have n3_ := Aside0.mk (below_step (by repeat (first | (with_reducible first | exact HB.out | apply below_alloc | apply pw_below_drewN | apply below_drew1 | refine below_set ?_ GE140.out | refine below_set ?_ GE142.out | refine below_set ?_ GE143.out) | exact HB.out)) hb)
          clear BK140
          clear BK142
          clear BK143
          clear HB
          have BK140 := n0_
          have BK142 := n1_
          have BK143 := n2_
          have HB := n3_
          clear n0_ n1_ n2_ n3_
          (try clear hb)
          (try clear hb2)
          (try clear hk)
          (try clear hi)
          refine hK.out _ _ ⟨(blk_cell BK143.out 0).trans rfl, (blk_cell BK143.out 1).trans rfl, (blk_cell BK143.out 2).trans rfl, (blk_cell BK142.out 0).trans rfl, (blk_cell BK142.out 1).trans rfl, (blk_cell BK142.out 2).trans rfl⟩ (fun hHeld => ?_)
          clear hK K
          refine norm_ (a' := ?_) ?_ ?_
          rotate_left
          · show Act.put _ (some 48) _ = _
            simp only [Act.put, List.setIfInBounds_toArray, List.set_cons_zero, List.set_cons_succ, i64_w, i32_w]
            rfl
          refine one_ (i := 21) (N := some 49) #[true, true, true, true, true, true, true, true, true, true, true, true, true, true, true, true, true, true, true, true, true, true, false, false, false, false, false, false, false, false, false] rfl rfl (one_of HT_.out (by kernel_rfl)) (by decide) (fun K hK => ?_)
          refine goes_ Try.func10 (by kernel_rfl) rfl #[.int .u64 t144, .int .i64 100] (by rfl) rfl rfl (by (try simp only [List.map_toArray, List.map_cons, List.map_nil]); first | done | rfl | (simp only [List.length_drop, List.length_take]; rfl)) ?_
          with_reducible refine (hash_Place.calls k t144 100 t149 _ A15.out).mono ?_
          rintro e w' ⟨rfl, ⟨nd, rfl⟩⟩
          refine ⟨_, rfl, ?_⟩
          refine hK.out _ _ ⟨(blk_cell BK143.out 0).trans rfl, (blk_cell BK143.out 1).trans rfl, (blk_cell BK143.out 2).trans rfl, (blk_cell BK142.out 0).trans rfl, (blk_cell BK142.out 1).trans rfl, (blk_cell BK142.out 2).trans rfl⟩ (fun hHeld => ?_)
          clear hK K
          refine norm_ (a' := ?_) ?_ ?_
          rotate_left
          · show Act.put _ (some 49) _ = _
            simp only [Act.put, List.setIfInBounds_toArray, List.set_cons_zero, List.set_cons_succ, i64_w, i32_w]
            rfl
          refine pure_ (i := 22) (N := some 50) (v := ?_) (a' := ?_) #[true, true, true, true, true, true, true, true, true, true, true, true, true, true, true, true, true, true, true, true, true, true, true, false, false, false, false, false, false, false, false] rfl rfl (any_of HT_.out (by kernel_rfl)) (fun _ _ _ h => h) (Or.inl ⟨by rfl, ?_⟩) ?_ ?_
          rotate_left
          · intro w'
            go_simp
            with_reducible rfl
          rotate_left
          · simp only [Act.put, List.setIfInBounds_toArray, List.set_cons_zero, List.set_cons_succ, i64_w, i32_w]
            rfl
          refine pure_ (i := 23) (N := some 51) (v := ?_) (a' := ?_) #[true, true, true, true, true, true, true, true, true, true, true, true, true, true, true, true, true, true, true, true, true, true, true, true, false, false, false, false, false, false, false] rfl rfl (any_of HT_.out (by kernel_rfl)) (fun _ _ _ h => h) (Or.inl ⟨by rfl, ?_⟩) ?_ ?_
          rotate_left
          · intro w'
            go_simp
            with_reducible rfl
          rotate_left
          · simp only [Act.put, List.setIfInBounds_toArray, List.set_cons_zero, List.set_cons_succ, i64_w, i32_w]
            rfl
          refine pure_ (i := 24) (N := some 52) (v := ?_) (a' := ?_) #[true, true, true, true, true, true, true, true, true, true, true, true, true, true, true, true, true, true, true, true, true, true, true, true, true, false, false, false, false, false, false] rfl rfl (any_of HT_.out (by kernel_rfl)) (fun _ _ _ h => h) (Or.inl ⟨by rfl, ?_⟩) ?_ ?_
          rotate_left
          · intro w'
            go_simp
            with_reducible rfl
          rotate_left
          · simp only [Act.put, List.setIfInBounds_toArray, List.set_cons_zero, List.set_cons_succ, i64_w, i32_w]
            rfl
          refine pure_ (i := 26) (N := some 54) (v := ?_) (a' := ?_) #[true, true, true, true, true, true, true, true, true, true, true, true, true, true, true, true, true, true, true, true, true, true, true, true, true, false, true, false, false, false, false] rfl rfl (any_of HT_.out (by kernel_rfl)) (fun _ _ _ h => h) (Or.inl ⟨by rfl, ?_⟩) ?_ ?_
          rotate_left
          · intro w'
            go_simp
            with_reducible rfl
          rotate_left
          · simp only [Act.put, List.setIfInBounds_toArray, List.set_cons_zero, List.set_cons_succ, i64_w, i32_w]
            rfl
          refine take_ (i := 25) (N := some 53) (v := ?_) (a' := ?_) #[true, true, true, true, true, true, true, true, true, true, true, true, true, true, true, true, true, true, true, true, true, true, true, true, true, true, true, false, false, false, false] rfl rfl (take_ofW HT_.out HW_.out (by kernel_rfl)) (fun _ _ _ h => h) (Or.inl ⟨by rfl, ?_⟩) hHeld ?_ ?_
          rotate_left
          · rintro w' ⟨s0, s1, s2, s3, s4, s5⟩
            go_simp
            with_reducible rfl
          rotate_left
          · simp only [Act.put, List.setIfInBounds_toArray, List.set_cons_zero, List.set_cons_succ, i64_w, i32_w]
            rfl
          refine one_ (i := 27) (N := some 55) #[true, true, true, true, true, true, true, true, true, true, true, true, true, true, true, true, true, true, true, true, true, true, true, true, true, true, true, true, false, false, false] rfl rfl (one_of HT_.out (by kernel_rfl)) (by decide) (fun K hK => ?_)
          refine goes_ Try.func12 (by kernel_rfl) rfl #[.agg #[.int .u64 (IntKind.u64.wrap ((Int.tmod a0 2305843009213693950) + 1)), .int .u64 (IntKind.u64.wrap ((Int.tmod a1_0 2305843009213693950) + 1)), .int .u64 (Int.tmod a1_1 2305843009213693951)], .string a2, .int .i64 1] (by rfl) rfl rfl (by (try simp only [List.map_toArray, List.map_cons, List.map_nil]); first | done | rfl | (simp only [List.length_drop, List.length_take]; rfl)) ?_
          with_reducible refine (hash_Row_Bucket.calls k (IntKind.u64.wrap ((Int.tmod a0 2305843009213693950) + 1)) (IntKind.u64.wrap ((Int.tmod a1_0 2305843009213693950) + 1)) (Int.tmod a1_1 2305843009213693951) a2 1 t150 _ A17.out).mono ?_
          rintro e w34 ⟨rfl, hb⟩
          refine ⟨_, rfl, ?_⟩
          have n0_ := Aside0.mk (blk_below (g := gb140) (o := .cells #[.int .u64 a1_0, .int .u64 a1_1] 33 (0, 0)) (by (with_reducible repeat (first | refine blk_drewN ?_ _ | refine blk_drew ?_ | refine blk_alloc ?_ _)); exact BK140.out) hb)
          have n1_ := Aside0.mk (blk_below (g := gb142) (o := .cells #[.int .u64 (IntKind.u64.wrap ((Int.tmod a0 2305843009213693950) + 1)), .int .u64 1, .int .u64 0] 28 (0, 0)) (by (with_reducible repeat (first | refine blk_drewN ?_ _ | refine blk_drew ?_ | refine blk_alloc ?_ _)); exact BK142.out) hb)
          have n2_ := Aside0.mk (blk_below (g := gb143) (o := .cells #[.int .u64 (IntKind.u64.wrap ((Int.tmod a0 2305843009213693950) + 1)), .int .u64 (IntKind.u64.wrap ((Int.tmod a1_0 2305843009213693950) + 1)), .int .u64 (Int.tmod a1_1 2305843009213693951)] 28 (0, 0)) (by (with_reducible repeat (first | refine blk_drewN ?_ _ | refine blk_drew ?_ | refine blk_alloc ?_ _)); exact BK143.out) hb)
          have n3_ := Aside0.mk (below_step (by repeat (first | (with_reducible first | exact HB.out | apply below_alloc | apply pw_below_drewN | apply below_drew1 | refine below_set ?_ GE140.out | refine below_set ?_ GE142.out | refine below_set ?_ GE143.out) | exact HB.out)) hb)
          clear BK140
          clear BK142
          clear BK143
          clear HB
          have BK140 := n0_
          have BK142 := n1_
          have BK143 := n2_
          have HB := n3_
          clear n0_ n1_ n2_ n3_
          (try clear hb)
          (try clear hb2)
          (try clear hk)
          (try clear hi)
          refine hK.out _ _ ⟨(blk_cell BK143.out 0).trans rfl, (blk_cell BK143.out 1).trans rfl, (blk_cell BK143.out 2).trans rfl, (blk_cell BK142.out 0).trans rfl, (blk_cell BK142.out 1).trans rfl, (blk_cell BK142.out 2).trans rfl⟩ (fun hHeld => ?_)
          clear hK K
          refine norm_ (a' := ?_) ?_ ?_
          rotate_left
          · show Act.put _ (some 55) _ = _
            simp only [Act.put, List.setIfInBounds_toArray, List.set_cons_zero, List.set_cons_succ, i64_w, i32_w]
            rfl
          refine pure_ (i := 28) (N := some 56) (v := ?_) (a' := ?_) #[true, true, true, true, true, true, true, true, true, true, true, true, true, true, true, true, true, true, true, true, true, true, true, true, true, true, true, true, true, false, false] rfl rfl (any_of HT_.out (by kernel_rfl)) (fun _ _ _ h => h) (Or.inl ⟨by rfl, ?_⟩) ?_ ?_
          rotate_left
          · intro w'
            go_simp
            with_reducible rfl
          rotate_left
          · simp only [Act.put, List.setIfInBounds_toArray, List.set_cons_zero, List.set_cons_succ, i64_w, i32_w]
            rfl
          refine pure_ (i := 29) (N := some 57) (v := ?_) (a' := ?_) #[true, true, true, true, true, true, true, true, true, true, true, true, true, true, true, true, true, true, true, true, true, true, true, true, true, true, true, true, true, true, false] rfl rfl (any_of HT_.out (by kernel_rfl)) (fun _ _ _ h => h) (Or.inl ⟨by rfl, ?_⟩) ?_ ?_
          rotate_left
          · intro w'
            go_simp
            with_reducible rfl
          rotate_left
          · simp only [Act.put, List.setIfInBounds_toArray, List.set_cons_zero, List.set_cons_succ, i64_w, i32_w]
            rfl
          refine pure_ (i := 30) (N := some 6) (v := ?_) (a' := ?_) #[true, true, true, true, true, true, true, true, true, true, true, true, true, true, true, true, true, true, true, true, true, true, true, true, true, true, true, true, true, true, true] rfl rfl (any_of HT_.out (by kernel_rfl)) (fun _ _ _ h => h) (Or.inl ⟨by rfl, ?_⟩) ?_ ?_
          rotate_left
          · intro w'
            go_simp
            with_reducible rfl
          rotate_left
          · simp only [Act.put, List.setIfInBounds_toArray, List.set_cons_zero, List.set_cons_succ, i64_w, i32_w]
            rfl
          refine done_ (done_of HT_.out (by kernel_rfl)) ?_
          try go_wp2
          go_ret
          exact ⟨by first | rfl | (simp [errW_none, errW_some] <;> rfl) | (simp [*, errW_none, errW_some] <;> rfl), by repeat (first | (with_reducible first | exact HB.out | apply below_alloc | apply pw_below_drewN | apply below_drew1 | refine below_set ?_ GE140.out | refine below_set ?_ GE142.out | refine below_set ?_ GE143.out) | exact HB.out)⟩
        · rw [if_neg c16] at H
          have c16b0 : (t147 == t149) = false := beq_eq_false_iff_ne.mpr c16
          have c16b1 : (t147 != t149) = true := bne_iff_ne.mpr c16
          exact absurd (Option.some.inj H) (by rw [hr_.out]; decide)
      · rw [if_neg c12] at H
        have c12b0 : (t144 == (Int.tmod (IntKind.u64.wrap (t146 + (Int.tmod a1_1 2305843009213693951))) 2305843009213693951)) = false := beq_eq_false_iff_ne.mpr c12
        have c12b1 : (t144 != (Int.tmod (IntKind.u64.wrap (t146 + (Int.tmod a1_1 2305843009213693951))) 2305843009213693951)) = true := bne_iff_ne.mpr c12
        exact absurd (Option.some.inj H) (by rw [hr_.out]; decide)
  · replace c5 := Bool.eq_false_iff.mpr c5
    subst c5
    have H1 : (some false) = some r := by rw [if_neg (show ¬ (false = true) by decide)] at H; exact H
    clear H
    have H := H1
    clear H1
    exact absurd (Option.some.inj H) (by rw [hr_.out]; decide)

/-- THE ONE PURE STATEMENT of weighbridgelaw03_HashLines. -/
def weighbridgelaw03_HashLines.Pure : Prop := ∀ (a0 : Int) (a1_0 : Int) (a1_1 : Int) (a2 : ByteArray), (Lit.int .u64 a0).wf = true → (Lit.int .u64 a1_0).wf = true → (Lit.int .u64 a1_1).wf = true → a2.size ≤ 140737488351232 → ∃ k, weighbridgelaw03_HashLines.f k a0 a1_0 a1_1 a2 = some true
theorem weighbridgelaw03_HashLines.walk (P : weighbridgelaw03_HashLines.Pure) (a0 : Int) (a1_0 : Int) (a1_1 : Int) (a2 : ByteArray) (w : World) (g0 : (Lit.int .u64 a0).wf = true) (g1 : (Lit.int .u64 a1_0).wf = true) (g2 : (Lit.int .u64 a1_1).wf = true) (g3 : a2.size ≤ 140737488351232) :
    Calls Try.prog 5 #[.int .u64 a0, .agg #[.int .u64 a1_0, .int .u64 a1_1], .string a2] w fun e w' => e = .returned (.bool true) ∧ Below w.heap.size w w' := by
  obtain ⟨k, h⟩ := P a0 a1_0 a1_1 a2 g0 g1 g2 g3
  refine (weighbridgelaw03_HashLines.calls k a0 a1_0 a1_1 a2 true w  (Aside0.mk rfl) h).mono ?_
  rintro e w' ⟨rfl, hd⟩
  exact ⟨rfl, hd⟩

end Go.Proofs.Yteboinnganbdeaa.QHashLines
