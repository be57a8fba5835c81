-- Laid by a program of this session (wip/myprint.py, over the kit's print.py): a walk of the code and what it computes.
import Derived.Test.YtdnimnlnicnjnaaQCellCarryx0
import Derived.Test.YtdnimnlnicnjnaaQCellCarryx1
import Derived.Test.YtdnimnlnicnjnaaQCellCarryx2
import Derived.Test.YtdnimnlnicnjnaaQCellCarryx3
import Derived.Test.YtdnimnlnicnjnaaQCellCarryx4
namespace Go.Proofs.Ytdnimnlnicnjnaa.QCellCarry
open Go.RowKit Go.Proofs.YtdnimnlnicnjnaaW.PrintWords Go.Proofs.YtdnimnlnicnjnaaW.PrintLast Go.Proofs.YtdnimnlnicnjnaaW.PrintMore
open List (setIfInBounds_toArray set_cons_zero set_cons_succ map_toArray map_cons map_nil length_drop length_take)
abbrev pN := @blk_drewN
abbrev pD := @blk_drew
abbrev pA := @blk_alloc
attribute [local go_sem] max2_int min2_int max_two min_two max_three min_three max_four min_four   -- for this text's walks alone
set_option linter.unusedVariables false
set_option linter.unusedSimpArgs false

/-! ### weighbridgelaw09_CellCarry: function 7 -/
def weighbridgelaw09_CellCarry.f (k : Nat) (a0_0 : Int) (a0_1 : Int) (a0_2 : Int) (a1 : Int) (a2 : Int) : Option (Bool) := (weighbridgelaw09_fit.f k).bind fun t147 => (if t147 = true then ((weighbridgelaw09_Plan_Rule.f a0_0 a0_1 a0_2).bind fun bt148 => ((cell_Of.f k bt148.1 bt148.2.1 bt148.2.2.1 bt148.2.2.2.1 bt148.2.2.2.2.1 bt148.2.2.2.2.2.1 bt148.2.2.2.2.2.2.1 bt148.2.2.2.2.2.2.2.1 bt148.2.2.2.2.2.2.2.2).bind fun bt158 => ((cell_New.f 5 (Go.bits .and .i64 a1 63)).bind fun bt163 => ((cell_New.f 5 0).bind fun bt167 => (if (Go.bits .and .i64 a2 1023) ≥ bt148.2.1 then ((cell_Cell_Room.f k bt163.1 bt163.2.1 bt163.2.2.1 bt163.2.2.2 bt158.1 bt158.2.1 bt158.2.2.1 bt158.2.2.2 (wrap64 (5 + (Go.bits .and .i64 a2 1023)))).bind fun t173 => ((cell_Cell_Room.f k bt167.1 bt167.2.1 bt167.2.2.1 bt167.2.2.2 bt158.1 bt158.2.1 bt158.2.2.1 bt158.2.2.2 (wrap64 (5 + (Go.bits .and .i64 a2 1023)))).bind fun t174 => (if t173 = t174 then ((cell_Cell_Wait.f bt163.1 bt163.2.1 bt163.2.2.1 bt163.2.2.2 bt158.1 bt158.2.1 bt158.2.2.1 bt158.2.2.2 (wrap64 (5 + (Go.bits .and .i64 a2 1023))) 1).bind fun t175 => (some (t175 == 0))) else (some false)))) else ((cell_Cell_Room.f k bt163.1 bt163.2.1 bt163.2.2.1 bt163.2.2.2 bt158.1 bt158.2.1 bt158.2.2.1 bt158.2.2.2 (wrap64 (5 + (Go.bits .and .i64 a2 1023)))).bind fun t176 => (if t176 = (mn (mx (wrap64 (bt148.1 - (Go.bits .and .i64 a1 63))) 0) bt148.2.2.1) then (if (mx (wrap64 (bt148.1 - (Go.bits .and .i64 a1 63))) 0) ≥ 1 then ((cell_Cell_Wait.f bt163.1 bt163.2.1 bt163.2.2.1 bt163.2.2.2 bt158.1 bt158.2.1 bt158.2.2.1 bt158.2.2.2 (wrap64 (5 + (Go.bits .and .i64 a2 1023))) 1).bind fun t177 => (if t177 = 0 then (some true) else (if (mx (wrap64 (bt148.1 - (Go.bits .and .i64 a1 63))) 0) = 0 then ((cell_Cell_Wait.f bt163.1 bt163.2.1 bt163.2.2.1 bt163.2.2.2 bt158.1 bt158.2.1 bt158.2.2.1 bt158.2.2.2 (wrap64 (5 + (Go.bits .and .i64 a2 1023))) 1).bind fun t178 => (some (t178 == (wrap64 (bt148.2.1 - (Go.bits .and .i64 a2 1023)))))) else (some false)))) else (if (mx (wrap64 (bt148.1 - (Go.bits .and .i64 a1 63))) 0) = 0 then ((cell_Cell_Wait.f bt163.1 bt163.2.1 bt163.2.2.1 bt163.2.2.2 bt158.1 bt158.2.1 bt158.2.2.1 bt158.2.2.2 (wrap64 (5 + (Go.bits .and .i64 a2 1023))) 1).bind fun t179 => (some (t179 == (wrap64 (bt148.2.1 - (Go.bits .and .i64 a2 1023)))))) else (some false))) else (some false)))))))) else (some false))
theorem weighbridgelaw09_CellCarry.mono : ∀ a0 a1 a2 a3 a4 k, LeO (weighbridgelaw09_CellCarry.f k a0 a1 a2 a3 a4) (weighbridgelaw09_CellCarry.f (k + 1) a0 a1 a2 a3 a4) := by
  intro a0 a1 a2 a3 a4 k
  unfold weighbridgelaw09_CellCarry.f
  repeat' first
      | (with_reducible exact cell_Cell_Room.mono _ _ _ _ _ _ _ _ _ _)
      | (with_reducible exact cell_Of.mono _ _ _ _ _ _ _ _ _ _)
      | (with_reducible exact weighbridgelaw09_fit.mono _)
      | (with_reducible exact LeO.refl _)
      | (with_reducible exact LeO.none _)
      | (with_reducible refine LeO.ite ?_ ?_)
      | (with_reducible refine LeO.bind ?_ (fun _ => ?_))
      | exact cell_Cell_Room.mono _ _ _ _ _ _ _ _ _ _
      | exact cell_Of.mono _ _ _ _ _ _ _ _ _ _
      | exact weighbridgelaw09_fit.mono _
      | exact LeO.none _
      | refine LeO.ite ?_ ?_
      | refine LeO.bind ?_ (fun _ => ?_)
def weighbridgelaw09_CellCarry.T9 : Bool × List (List Nat × List Nat) := (true, [([], []), ([], []), ([], []), ([2], [2]), ([0, 1, 3], [0, 1, 3]), ([], []), ([], []), ([], []), ([7], [7]), ([5, 6, 8, 4], [5, 6, 8]), ([4, 9], [4, 9]), ([10, 9], [10]), ([11], [11]), ([11], [11]), ([11], [11]), ([14, 11], [11, 14]), ([12, 13, 15, 11, 11], [11, 12, 13, 15]), ([16, 11], [11, 16]), ([11, 17], [11, 17]), ([18, 16, 0, 1, 2, 3, 4, 5, 6, 7, 8, 9, 10, 11, 12, 13, 14, 15, 16, 17, 18], [18])])
def weighbridgelaw09_CellCarry.B9 : List Nat := [0, 0, 0, 4, 15, 0, 0, 0, 128, 511, 1023, 2047, 4095, 4095, 4095, 20479, 65535, 131071, 262143, 524287]
theorem weighbridgelaw09_CellCarry.tab9 : rtab .any (opsOf Try.f7 9) = weighbridgelaw09_CellCarry.T9 := by kernel_rfl
theorem weighbridgelaw09_CellCarry.bits9 : waitsOk weighbridgelaw09_CellCarry.T9.2 weighbridgelaw09_CellCarry.B9 = true := by kernel_rfl
def weighbridgelaw09_CellCarry.T11 : Bool × List (List Nat × List Nat) := (true, [([], []), ([], []), ([], []), ([2], [2]), ([0, 1, 3], [0, 1, 3]), ([], []), ([], []), ([6], [6]), ([5, 7], [5, 7]), ([4, 8], [4, 8])])
def weighbridgelaw09_CellCarry.B11 : List Nat := [0, 0, 0, 4, 15, 0, 0, 64, 224, 511]
theorem weighbridgelaw09_CellCarry.tab11 : rtab .any (opsOf Try.f7 11) = weighbridgelaw09_CellCarry.T11 := by kernel_rfl
theorem weighbridgelaw09_CellCarry.bits11 : waitsOk weighbridgelaw09_CellCarry.T11.2 weighbridgelaw09_CellCarry.B11 = true := by kernel_rfl
def weighbridgelaw09_CellCarry.T13 : Bool × List (List Nat × List Nat) := (true, [([], []), ([0], [0]), ([1], [1]), ([2], [2]), ([2], [2]), ([2], [2]), ([5, 2], [2, 5]), ([3, 4, 6, 2, 2], [2, 3, 4, 6]), ([7, 2], [2, 7]), ([2, 8], [2, 8]), ([9, 7], [9]), ([10], [10]), ([11, 10], [10, 11]), ([12, 10, 10], [10, 12]), ([13], [13]), ([13], [13]), ([13], [13]), ([16, 13], [13, 16]), ([14, 15, 17, 13, 13], [13, 14, 15, 17]), ([13], [13]), ([19, 13], [13, 19]), ([13], [13]), ([20, 21, 13], [13, 20, 21]), ([18, 22, 13], [13, 18, 22]), ([13, 23, 10], [10, 13, 23]), ([10, 24], [10, 24]), ([25, 18, 0, 1, 2, 3, 4, 5, 6, 7, 8, 9, 10, 11, 12, 13, 14, 15, 16, 17, 18, 19, 20, 21, 22, 23, 24, 25], [25])])
def weighbridgelaw09_CellCarry.B13 : List Nat := [0, 1, 3, 7, 7, 7, 39, 127, 255, 511, 1023, 2047, 4095, 8191, 16383, 16383, 16383, 81919, 262143, 16383, 540671, 16383, 3686399, 8388607, 16777215, 33554431, 67108863]
theorem weighbridgelaw09_CellCarry.tab13 : rtab .any (opsOf Try.f7 13) = weighbridgelaw09_CellCarry.T13 := by kernel_rfl
theorem weighbridgelaw09_CellCarry.bits13 : waitsOk weighbridgelaw09_CellCarry.T13.2 weighbridgelaw09_CellCarry.B13 = true := by kernel_rfl
set_option maxHeartbeats 8000000 in
set_option maxRecDepth 100000 in
theorem weighbridgelaw09_CellCarry.calls (k : Nat) (a0_0 : Int) (a0_1 : Int) (a0_2 : Int) (a1 : Int) (a2 : Int) (r : Bool) (w : World) (hr_ : Aside0 (r = true)) (h : weighbridgelaw09_CellCarry.f k a0_0 a0_1 a0_2 a1 a2 = some r) :
    Calls Try.prog 7 #[.agg #[.int .i64 a0_0, .int .i64 a0_1, .int .i64 a0_2], .int .i64 a1, .int .i64 a2] w fun e w' => e = .returned (.bool r) ∧ Below w.heap.size w w' := by
  have hu23 := Try.underlying23
  have hu28 := Try.underlying28
  have hu31 := Try.underlying31
  have hu36 := Try.underlying36
  have HB := Aside0.mk (Below.refl w.heap.size w)
  have H : ((weighbridgelaw09_fit.f k).bind fun t147 => (if t147 = true then ((weighbridgelaw09_Plan_Rule.f a0_0 a0_1 a0_2).bind fun bt148 => ((cell_Of.f k bt148.1 bt148.2.1 bt148.2.2.1 bt148.2.2.2.1 bt148.2.2.2.2.1 bt148.2.2.2.2.2.1 bt148.2.2.2.2.2.2.1 bt148.2.2.2.2.2.2.2.1 bt148.2.2.2.2.2.2.2.2).bind fun bt158 => ((cell_New.f 5 (Go.bits .and .i64 a1 63)).bind fun bt163 => ((cell_New.f 5 0).bind fun bt167 => (if (Go.bits .and .i64 a2 1023) ≥ bt148.2.1 then ((cell_Cell_Room.f k bt163.1 bt163.2.1 bt163.2.2.1 bt163.2.2.2 bt158.1 bt158.2.1 bt158.2.2.1 bt158.2.2.2 (wrap64 (5 + (Go.bits .and .i64 a2 1023)))).bind fun t173 => ((cell_Cell_Room.f k bt167.1 bt167.2.1 bt167.2.2.1 bt167.2.2.2 bt158.1 bt158.2.1 bt158.2.2.1 bt158.2.2.2 (wrap64 (5 + (Go.bits .and .i64 a2 1023)))).bind fun t174 => (if t173 = t174 then ((cell_Cell_Wait.f bt163.1 bt163.2.1 bt163.2.2.1 bt163.2.2.2 bt158.1 bt158.2.1 bt158.2.2.1 bt158.2.2.2 (wrap64 (5 + (Go.bits .and .i64 a2 1023))) 1).bind fun t175 => (some (t175 == 0))) else (some false)))) else ((cell_Cell_Room.f k bt163.1 bt163.2.1 bt163.2.2.1 bt163.2.2.2 bt158.1 bt158.2.1 bt158.2.2.1 bt158.2.2.2 (wrap64 (5 + (Go.bits .and .i64 a2 1023)))).bind fun t176 => (if t176 = (mn (mx (wrap64 (bt148.1 - (Go.bits .and .i64 a1 63))) 0) bt148.2.2.1) then (if (mx (wrap64 (bt148.1 - (Go.bits .and .i64 a1 63))) 0) ≥ 1 then ((cell_Cell_Wait.f bt163.1 bt163.2.1 bt163.2.2.1 bt163.2.2.2 bt158.1 bt158.2.1 bt158.2.2.1 bt158.2.2.2 (wrap64 (5 + (Go.bits .and .i64 a2 1023))) 1).bind fun t177 => (if t177 = 0 then (some true) else (if (mx (wrap64 (bt148.1 - (Go.bits .and .i64 a1 63))) 0) = 0 then ((cell_Cell_Wait.f bt163.1 bt163.2.1 bt163.2.2.1 bt163.2.2.2 bt158.1 bt158.2.1 bt158.2.2.1 bt158.2.2.2 (wrap64 (5 + (Go.bits .and .i64 a2 1023))) 1).bind fun t178 => (some (t178 == (wrap64 (bt148.2.1 - (Go.bits .and .i64 a2 1023)))))) else (some false)))) else (if (mx (wrap64 (bt148.1 - (Go.bits .and .i64 a1 63))) 0) = 0 then ((cell_Cell_Wait.f bt163.1 bt163.2.1 bt163.2.2.1 bt163.2.2.2 bt158.1 bt158.2.1 bt158.2.2.1 bt158.2.2.2 (wrap64 (5 + (Go.bits .and .i64 a2 1023))) 1).bind fun t179 => (some (t179 == (wrap64 (bt148.2.1 - (Go.bits .and .i64 a2 1023)))))) else (some false))) else (some false)))))))) else (some false))) = some r := h
  clear h
  replace H := Option.bind_eq_some_iff.mp H
  obtain ⟨t147, A40, H⟩ := H
  replace H : (if t147 = true then ((weighbridgelaw09_Plan_Rule.f a0_0 a0_1 a0_2).bind fun bt148 => ((cell_Of.f k bt148.1 bt148.2.1 bt148.2.2.1 bt148.2.2.2.1 bt148.2.2.2.2.1 bt148.2.2.2.2.2.1 bt148.2.2.2.2.2.2.1 bt148.2.2.2.2.2.2.2.1 bt148.2.2.2.2.2.2.2.2).bind fun bt158 => ((cell_New.f 5 (Go.bits .and .i64 a1 63)).bind fun bt163 => ((cell_New.f 5 0).bind fun bt167 => (if (Go.bits .and .i64 a2 1023) ≥ bt148.2.1 then ((cell_Cell_Room.f k bt163.1 bt163.2.1 bt163.2.2.1 bt163.2.2.2 bt158.1 bt158.2.1 bt158.2.2.1 bt158.2.2.2 (wrap64 (5 + (Go.bits .and .i64 a2 1023)))).bind fun t173 => ((cell_Cell_Room.f k bt167.1 bt167.2.1 bt167.2.2.1 bt167.2.2.2 bt158.1 bt158.2.1 bt158.2.2.1 bt158.2.2.2 (wrap64 (5 + (Go.bits .and .i64 a2 1023)))).bind fun t174 => (if t173 = t174 then ((cell_Cell_Wait.f bt163.1 bt163.2.1 bt163.2.2.1 bt163.2.2.2 bt158.1 bt158.2.1 bt158.2.2.1 bt158.2.2.2 (wrap64 (5 + (Go.bits .and .i64 a2 1023))) 1).bind fun t175 => (some (t175 == 0))) else (some false)))) else ((cell_Cell_Room.f k bt163.1 bt163.2.1 bt163.2.2.1 bt163.2.2.2 bt158.1 bt158.2.1 bt158.2.2.1 bt158.2.2.2 (wrap64 (5 + (Go.bits .and .i64 a2 1023)))).bind fun t176 => (if t176 = (mn (mx (wrap64 (bt148.1 - (Go.bits .and .i64 a1 63))) 0) bt148.2.2.1) then (if (mx (wrap64 (bt148.1 - (Go.bits .and .i64 a1 63))) 0) ≥ 1 then ((cell_Cell_Wait.f bt163.1 bt163.2.1 bt163.2.2.1 bt163.2.2.2 bt158.1 bt158.2.1 bt158.2.2.1 bt158.2.2.2 (wrap64 (5 + (Go.bits .and .i64 a2 1023))) 1).bind fun t177 => (if t177 = 0 then (some true) else (if (mx (wrap64 (bt148.1 - (Go.bits .and .i64 a1 63))) 0) = 0 then ((cell_Cell_Wait.f bt163.1 bt163.2.1 bt163.2.2.1 bt163.2.2.2 bt158.1 bt158.2.1 bt158.2.2.1 bt158.2.2.2 (wrap64 (5 + (Go.bits .and .i64 a2 1023))) 1).bind fun t178 => (some (t178 == (wrap64 (bt148.2.1 - (Go.bits .and .i64 a2 1023)))))) else (some false)))) else (if (mx (wrap64 (bt148.1 - (Go.bits .and .i64 a1 63))) 0) = 0 then ((cell_Cell_Wait.f bt163.1 bt163.2.1 bt163.2.2.1 bt163.2.2.2 bt158.1 bt158.2.1 bt158.2.2.1 bt158.2.2.2 (wrap64 (5 + (Go.bits .and .i64 a2 1023))) 1).bind fun t179 => (some (t179 == (wrap64 (bt148.2.1 - (Go.bits .and .i64 a2 1023)))))) else (some false))) else (some false)))))))) else (some false)) = some r := H
  have A4 := Aside0.mk A40
  clear A40
  by_cases c5 : t147 = true
  · subst c5
    have H1 : ((weighbridgelaw09_Plan_Rule.f a0_0 a0_1 a0_2).bind fun bt148 => ((cell_Of.f k bt148.1 bt148.2.1 bt148.2.2.1 bt148.2.2.2.1 bt148.2.2.2.2.1 bt148.2.2.2.2.2.1 bt148.2.2.2.2.2.2.1 bt148.2.2.2.2.2.2.2.1 bt148.2.2.2.2.2.2.2.2).bind fun bt158 => ((cell_New.f 5 (Go.bits .and .i64 a1 63)).bind fun bt163 => ((cell_New.f 5 0).bind fun bt167 => (if (Go.bits .and .i64 a2 1023) ≥ bt148.2.1 then ((cell_Cell_Room.f k bt163.1 bt163.2.1 bt163.2.2.1 bt163.2.2.2 bt158.1 bt158.2.1 bt158.2.2.1 bt158.2.2.2 (wrap64 (5 + (Go.bits .and .i64 a2 1023)))).bind fun t173 => ((cell_Cell_Room.f k bt167.1 bt167.2.1 bt167.2.2.1 bt167.2.2.2 bt158.1 bt158.2.1 bt158.2.2.1 bt158.2.2.2 (wrap64 (5 + (Go.bits .and .i64 a2 1023)))).bind fun t174 => (if t173 = t174 then ((cell_Cell_Wait.f bt163.1 bt163.2.1 bt163.2.2.1 bt163.2.2.2 bt158.1 bt158.2.1 bt158.2.2.1 bt158.2.2.2 (wrap64 (5 + (Go.bits .and .i64 a2 1023))) 1).bind fun t175 => (some (t175 == 0))) else (some false)))) else ((cell_Cell_Room.f k bt163.1 bt163.2.1 bt163.2.2.1 bt163.2.2.2 bt158.1 bt158.2.1 bt158.2.2.1 bt158.2.2.2 (wrap64 (5 + (Go.bits .and .i64 a2 1023)))).bind fun t176 => (if t176 = (mn (mx (wrap64 (bt148.1 - (Go.bits .and .i64 a1 63))) 0) bt148.2.2.1) then (if (mx (wrap64 (bt148.1 - (Go.bits .and .i64 a1 63))) 0) ≥ 1 then ((cell_Cell_Wait.f bt163.1 bt163.2.1 bt163.2.2.1 bt163.2.2.2 bt158.1 bt158.2.1 bt158.2.2.1 bt158.2.2.2 (wrap64 (5 + (Go.bits .and .i64 a2 1023))) 1).bind fun t177 => (if t177 = 0 then (some true) else (if (mx (wrap64 (bt148.1 - (Go.bits .and .i64 a1 63))) 0) = 0 then ((cell_Cell_Wait.f bt163.1 bt163.2.1 bt163.2.2.1 bt163.2.2.2 bt158.1 bt158.2.1 bt158.2.2.1 bt158.2.2.2 (wrap64 (5 + (Go.bits .and .i64 a2 1023))) 1).bind fun t178 => (some (t178 == (wrap64 (bt148.2.1 - (Go.bits .and .i64 a2 1023)))))) else (some false)))) else (if (mx (wrap64 (bt148.1 - (Go.bits .and .i64 a1 63))) 0) = 0 then ((cell_Cell_Wait.f bt163.1 bt163.2.1 bt163.2.2.1 bt163.2.2.2 bt158.1 bt158.2.1 bt158.2.2.1 bt158.2.2.2 (wrap64 (5 + (Go.bits .and .i64 a2 1023))) 1).bind fun t179 => (some (t179 == (wrap64 (bt148.2.1 - (Go.bits .and .i64 a2 1023)))))) else (some false))) else (some false)))))))) = some r := by rw [if_pos rfl] at H; exact H
    clear H
    have H := H1
    clear H1
    replace H := Option.bind_eq_some_iff.mp H
    obtain ⟨⟨t148, t149, t150, t151, t152, t153, t154, t155, t156⟩, A60, H⟩ := H
    replace H : ((cell_Of.f k t148 t149 t150 t151 t152 t153 t154 t155 t156).bind fun bt158 => ((cell_New.f 5 (Go.bits .and .i64 a1 63)).bind fun bt163 => ((cell_New.f 5 0).bind fun bt167 => (if (Go.bits .and .i64 a2 1023) ≥ t149 then ((cell_Cell_Room.f k bt163.1 bt163.2.1 bt163.2.2.1 bt163.2.2.2 bt158.1 bt158.2.1 bt158.2.2.1 bt158.2.2.2 (wrap64 (5 + (Go.bits .and .i64 a2 1023)))).bind fun t173 => ((cell_Cell_Room.f k bt167.1 bt167.2.1 bt167.2.2.1 bt167.2.2.2 bt158.1 bt158.2.1 bt158.2.2.1 bt158.2.2.2 (wrap64 (5 + (Go.bits .and .i64 a2 1023)))).bind fun t174 => (if t173 = t174 then ((cell_Cell_Wait.f bt163.1 bt163.2.1 bt163.2.2.1 bt163.2.2.2 bt158.1 bt158.2.1 bt158.2.2.1 bt158.2.2.2 (wrap64 (5 + (Go.bits .and .i64 a2 1023))) 1).bind fun t175 => (some (t175 == 0))) else (some false)))) else ((cell_Cell_Room.f k bt163.1 bt163.2.1 bt163.2.2.1 bt163.2.2.2 bt158.1 bt158.2.1 bt158.2.2.1 bt158.2.2.2 (wrap64 (5 + (Go.bits .and .i64 a2 1023)))).bind fun t176 => (if t176 = (mn (mx (wrap64 (t148 - (Go.bits .and .i64 a1 63))) 0) t150) then (if (mx (wrap64 (t148 - (Go.bits .and .i64 a1 63))) 0) ≥ 1 then ((cell_Cell_Wait.f bt163.1 bt163.2.1 bt163.2.2.1 bt163.2.2.2 bt158.1 bt158.2.1 bt158.2.2.1 bt158.2.2.2 (wrap64 (5 + (Go.bits .and .i64 a2 1023))) 1).bind fun t177 => (if t177 = 0 then (some true) else (if (mx (wrap64 (t148 - (Go.bits .and .i64 a1 63))) 0) = 0 then ((cell_Cell_Wait.f bt163.1 bt163.2.1 bt163.2.2.1 bt163.2.2.2 bt158.1 bt158.2.1 bt158.2.2.1 bt158.2.2.2 (wrap64 (5 + (Go.bits .and .i64 a2 1023))) 1).bind fun t178 => (some (t178 == (wrap64 (t149 - (Go.bits .and .i64 a2 1023)))))) else (some false)))) else (if (mx (wrap64 (t148 - (Go.bits .and .i64 a1 63))) 0) = 0 then ((cell_Cell_Wait.f bt163.1 bt163.2.1 bt163.2.2.1 bt163.2.2.2 bt158.1 bt158.2.1 bt158.2.2.1 bt158.2.2.2 (wrap64 (5 + (Go.bits .and .i64 a2 1023))) 1).bind fun t179 => (some (t179 == (wrap64 (t149 - (Go.bits .and .i64 a2 1023)))))) else (some false))) else (some false))))))) = some r := H
    have A6 := Aside0.mk A60
    clear A60
    replace H := Option.bind_eq_some_iff.mp H
    obtain ⟨⟨t158, t159, t160, t161⟩, A70, H⟩ := H
    replace H : ((cell_New.f 5 (Go.bits .and .i64 a1 63)).bind fun bt163 => ((cell_New.f 5 0).bind fun bt167 => (if (Go.bits .and .i64 a2 1023) ≥ t149 then ((cell_Cell_Room.f k bt163.1 bt163.2.1 bt163.2.2.1 bt163.2.2.2 t158 t159 t160 t161 (wrap64 (5 + (Go.bits .and .i64 a2 1023)))).bind fun t173 => ((cell_Cell_Room.f k bt167.1 bt167.2.1 bt167.2.2.1 bt167.2.2.2 t158 t159 t160 t161 (wrap64 (5 + (Go.bits .and .i64 a2 1023)))).bind fun t174 => (if t173 = t174 then ((cell_Cell_Wait.f bt163.1 bt163.2.1 bt163.2.2.1 bt163.2.2.2 t158 t159 t160 t161 (wrap64 (5 + (Go.bits .and .i64 a2 1023))) 1).bind fun t175 => (some (t175 == 0))) else (some false)))) else ((cell_Cell_Room.f k bt163.1 bt163.2.1 bt163.2.2.1 bt163.2.2.2 t158 t159 t160 t161 (wrap64 (5 + (Go.bits .and .i64 a2 1023)))).bind fun t176 => (if t176 = (mn (mx (wrap64 (t148 - (Go.bits .and .i64 a1 63))) 0) t150) then (if (mx (wrap64 (t148 - (Go.bits .and .i64 a1 63))) 0) ≥ 1 then ((cell_Cell_Wait.f bt163.1 bt163.2.1 bt163.2.2.1 bt163.2.2.2 t158 t159 t160 t161 (wrap64 (5 + (Go.bits .and .i64 a2 1023))) 1).bind fun t177 => (if t177 = 0 then (some true) else (if (mx (wrap64 (t148 - (Go.bits .and .i64 a1 63))) 0) = 0 then ((cell_Cell_Wait.f bt163.1 bt163.2.1 bt163.2.2.1 bt163.2.2.2 t158 t159 t160 t161 (wrap64 (5 + (Go.bits .and .i64 a2 1023))) 1).bind fun t178 => (some (t178 == (wrap64 (t149 - (Go.bits .and .i64 a2 1023)))))) else (some false)))) else (if (mx (wrap64 (t148 - (Go.bits .and .i64 a1 63))) 0) = 0 then ((cell_Cell_Wait.f bt163.1 bt163.2.1 bt163.2.2.1 bt163.2.2.2 t158 t159 t160 t161 (wrap64 (5 + (Go.bits .and .i64 a2 1023))) 1).bind fun t179 => (some (t179 == (wrap64 (t149 - (Go.bits .and .i64 a2 1023)))))) else (some false))) else (some false)))))) = some r := H
    have A7 := Aside0.mk A70
    clear A70
    replace H := Option.bind_eq_some_iff.mp H
    obtain ⟨⟨t163, t164, t165, t166⟩, A80, H⟩ := H
    replace H : ((cell_New.f 5 0).bind fun bt167 => (if (Go.bits .and .i64 a2 1023) ≥ t149 then ((cell_Cell_Room.f k t163 t164 t165 t166 t158 t159 t160 t161 (wrap64 (5 + (Go.bits .and .i64 a2 1023)))).bind fun t173 => ((cell_Cell_Room.f k bt167.1 bt167.2.1 bt167.2.2.1 bt167.2.2.2 t158 t159 t160 t161 (wrap64 (5 + (Go.bits .and .i64 a2 1023)))).bind fun t174 => (if t173 = t174 then ((cell_Cell_Wait.f t163 t164 t165 t166 t158 t159 t160 t161 (wrap64 (5 + (Go.bits .and .i64 a2 1023))) 1).bind fun t175 => (some (t175 == 0))) else (some false)))) else ((cell_Cell_Room.f k t163 t164 t165 t166 t158 t159 t160 t161 (wrap64 (5 + (Go.bits .and .i64 a2 1023)))).bind fun t176 => (if t176 = (mn (mx (wrap64 (t148 - (Go.bits .and .i64 a1 63))) 0) t150) then (if (mx (wrap64 (t148 - (Go.bits .and .i64 a1 63))) 0) ≥ 1 then ((cell_Cell_Wait.f t163 t164 t165 t166 t158 t159 t160 t161 (wrap64 (5 + (Go.bits .and .i64 a2 1023))) 1).bind fun t177 => (if t177 = 0 then (some true) else (if (mx (wrap64 (t148 - (Go.bits .and .i64 a1 63))) 0) = 0 then ((cell_Cell_Wait.f t163 t164 t165 t166 t158 t159 t160 t161 (wrap64 (5 + (Go.bits .and .i64 a2 1023))) 1).bind fun t178 => (some (t178 == (wrap64 (t149 - (Go.bits .and .i64 a2 1023)))))) else (some false)))) else (if (mx (wrap64 (t148 - (Go.bits .and .i64 a1 63))) 0) = 0 then ((cell_Cell_Wait.f t163 t164 t165 t166 t158 t159 t160 t161 (wrap64 (5 + (Go.bits .and .i64 a2 1023))) 1).bind fun t179 => (some (t179 == (wrap64 (t149 - (Go.bits .and .i64 a2 1023)))))) else (some false))) else (some false))))) = some r := H
    have A8 := Aside0.mk A80
    clear A80
    replace H := Option.bind_eq_some_iff.mp H
    obtain ⟨⟨t167, t168, t169, t170⟩, A90, H⟩ := H
    replace H : (if (Go.bits .and .i64 a2 1023) ≥ t149 then ((cell_Cell_Room.f k t163 t164 t165 t166 t158 t159 t160 t161 (wrap64 (5 + (Go.bits .and .i64 a2 1023)))).bind fun t173 => ((cell_Cell_Room.f k t167 t168 t169 t170 t158 t159 t160 t161 (wrap64 (5 + (Go.bits .and .i64 a2 1023)))).bind fun t174 => (if t173 = t174 then ((cell_Cell_Wait.f t163 t164 t165 t166 t158 t159 t160 t161 (wrap64 (5 + (Go.bits .and .i64 a2 1023))) 1).bind fun t175 => (some (t175 == 0))) else (some false)))) else ((cell_Cell_Room.f k t163 t164 t165 t166 t158 t159 t160 t161 (wrap64 (5 + (Go.bits .and .i64 a2 1023)))).bind fun t176 => (if t176 = (mn (mx (wrap64 (t148 - (Go.bits .and .i64 a1 63))) 0) t150) then (if (mx (wrap64 (t148 - (Go.bits .and .i64 a1 63))) 0) ≥ 1 then ((cell_Cell_Wait.f t163 t164 t165 t166 t158 t159 t160 t161 (wrap64 (5 + (Go.bits .and .i64 a2 1023))) 1).bind fun t177 => (if t177 = 0 then (some true) else (if (mx (wrap64 (t148 - (Go.bits .and .i64 a1 63))) 0) = 0 then ((cell_Cell_Wait.f t163 t164 t165 t166 t158 t159 t160 t161 (wrap64 (5 + (Go.bits .and .i64 a2 1023))) 1).bind fun t178 => (some (t178 == (wrap64 (t149 - (Go.bits .and .i64 a2 1023)))))) else (some false)))) else (if (mx (wrap64 (t148 - (Go.bits .and .i64 a1 63))) 0) = 0 then ((cell_Cell_Wait.f t163 t164 t165 t166 t158 t159 t160 t161 (wrap64 (5 + (Go.bits .and .i64 a2 1023))) 1).bind fun t179 => (some (t179 == (wrap64 (t149 - (Go.bits .and .i64 a2 1023)))))) else (some false))) else (some false)))) = some r := H
    have A9 := Aside0.mk A90
    clear A90
    by_cases c10 : (Go.bits .and .i64 a2 1023) ≥ t149
    · rw [if_pos c10] at H
      have c10b0 : decide (t149 ≤ (Go.bits .and .i64 a2 1023)) = true := decide_eq_true c10
      clear c10
      replace H := Option.bind_eq_some_iff.mp H
      obtain ⟨t173, A110, H⟩ := H
      replace H : ((cell_Cell_Room.f k t167 t168 t169 t170 t158 t159 t160 t161 (wrap64 (5 + (Go.bits .and .i64 a2 1023)))).bind fun t174 => (if t173 = t174 then ((cell_Cell_Wait.f t163 t164 t165 t166 t158 t159 t160 t161 (wrap64 (5 + (Go.bits .and .i64 a2 1023))) 1).bind fun t175 => (some (t175 == 0))) else (some false))) = some r := H
      have A11 := Aside0.mk A110
      clear A110
      replace H := Option.bind_eq_some_iff.mp H
      obtain ⟨t174, A120, H⟩ := H
      replace H : (if t173 = t174 then ((cell_Cell_Wait.f t163 t164 t165 t166 t158 t159 t160 t161 (wrap64 (5 + (Go.bits .and .i64 a2 1023))) 1).bind fun t175 => (some (t175 == 0))) else (some false)) = some r := H
      have A12 := Aside0.mk A120
      clear A120
      by_cases c13 : t173 = t174
      · rw [if_pos c13] at H
        have c13b0 : (t173 == t174) = true := beq_iff_eq.mpr c13
        have c13b1 : (t173 != t174) = false := bne_eq_false_iff_eq.mpr c13
        clear c13
        replace H := Option.bind_eq_some_iff.mp H
        obtain ⟨t175, A140, H⟩ := H
        replace H : (some (t175 == 0)) = some r := H
        have A14 := Aside0.mk A140
        clear A140
        obtain rfl := Option.some.inj H
        go_enter Try.func7, Try.ntmps7
        try go_wp2_with (first | ((with_reducible refine gate_dst (N := 3) rfl ?_); refine box_event ?hg (N := 3) ?hd (cs := #[.int .i64 a0_0, .int .i64 a0_1, .int .i64 a0_2]) (t := 23) ?hr ?_; (case hd => rfl); (case hg => rfl); (case hr => first | (go_simp; done) | (go_simp; rfl)); intro gb146 hg w15 hbox hb; have n0_ := Aside0.mk (below_step (by repeat (first | (with_reducible first | exact HB.out | apply below_alloc | apply pw_below_drewN | apply below_drew1) | exact HB.out)) hb); have n1_ := Aside0.mk (hbox); have n2_ := Aside0.mk ((by rw [hg]; exact (below_size (by repeat (first | (with_reducible first | exact HB.out | apply below_alloc | apply pw_below_drewN | apply below_drew1) | exact HB.out))) : w.heap.size ≤ gb146)); have n3_ := n2_; clear HB; have HB := n0_; have BK146 := n1_; have GW146 := n2_; have GE146 := n3_; clear n0_ n1_ n2_ n3_; clear hb hbox hg) | ((with_reducible refine gate_callee (f := 11) rfl ?_); refine goesL_ (some 12) rfl rfl Try.func11 (by kernel_rfl) rfl #[] rfl (by (try simp only [map_toArray, map_cons, map_nil]); first | done | rfl | (simp only [length_drop, length_take]; rfl)) ?_; (with_reducible refine (weighbridgelaw09_fit.calls k  true _ A4.out).mono ?_); rintro e w16 ⟨rfl, hb⟩; refine ⟨_, rfl, ?_⟩; have n0_ := Aside0.mk (blk_below (g := gb146) (by (with_reducible repeat (first | refine pN ?_ _ | refine pD ?_ | refine pA ?_ _)); exact BK146.out) hb); have n1_ := Aside0.mk (below_step (by repeat (first | (with_reducible first | exact HB.out | apply below_alloc | apply pw_below_drewN | apply below_drew1 | refine below_set ?_ GE146.out) | exact HB.out)) hb); clear BK146; clear HB; have BK146 := n0_; have HB := n1_; clear n0_ n1_; (try clear hb); (try clear hb2); (try clear hk); (try clear hi); have hcz17_0 : w16.cell? ⟨gb146, 0, none⟩ = some (.int .i64 a0_0) := (blk_cell BK146.out 0).trans rfl; have hcz17_1 : w16.cell? ⟨gb146, 1, none⟩ = some (.int .i64 a0_1) := (blk_cell BK146.out 1).trans rfl; have hcz17_2 : w16.cell? ⟨gb146, 2, none⟩ = some (.int .i64 a0_2) := (blk_cell BK146.out 2).trans rfl; have hfz17_0 := blk_frozen BK146.out 0; have hfz17_1 := blk_frozen BK146.out 1; have hfz17_2 := blk_frozen BK146.out 2) | ((with_reducible refine gate_callee (f := 12) rfl ?_); refine goesL_ (some 15) rfl rfl Try.func12 (by kernel_rfl) rfl #[.agg #[.int .i64 a0_0, .int .i64 a0_1, .int .i64 a0_2]] rfl (by (try simp only [map_toArray, map_cons, map_nil]); first | done | rfl | (simp only [length_drop, length_take]; rfl)) ?_; (with_reducible refine (weighbridgelaw09_Plan_Rule.calls a0_0 a0_1 a0_2 t148 t149 t150 t151 t152 t153 t154 t155 t156 _ A6.out).mono ?_); rintro e w18 ⟨rfl, hb⟩; refine ⟨_, rfl, ?_⟩; have n0_ := Aside0.mk (blk_below (g := gb146) (by (with_reducible repeat (first | refine pN ?_ _ | refine pD ?_ | refine pA ?_ _)); exact BK146.out) hb); have n1_ := Aside0.mk (below_step (by repeat (first | (with_reducible first | exact HB.out | apply below_alloc | apply pw_below_drewN | apply below_drew1 | refine below_set ?_ GE146.out) | exact HB.out)) hb); clear BK146; clear HB; have BK146 := n0_; have HB := n1_; clear n0_ n1_; (try clear hb); (try clear hb2); (try clear hk); (try clear hi)) | ((with_reducible refine gate_dst (N := 7) rfl ?_); refine box_event ?hg (N := 7) ?hd (cs := #[.int .i64 0, .int .i64 0, .int .i64 0, .int .i64 0, .int .i64 0, .int .i64 0, .int .i64 0, .int .i64 0, .bool false]) (t := 28) ?hr ?_; (case hd => rfl); (case hg => rfl); (case hr => first | (go_simp; done) | (go_simp; rfl)); intro gb157 hg w19 hbox hb; have n0_ := Aside0.mk (blk_below (g := gb146) (by (with_reducible repeat (first | refine pN ?_ _ | refine pD ?_ | refine pA ?_ _)); exact BK146.out) hb); have n1_ := Aside0.mk (below_step (by repeat (first | (with_reducible first | exact HB.out | apply below_alloc | apply pw_below_drewN | apply below_drew1 | refine below_set ?_ GE146.out) | exact HB.out)) hb); have n2_ := Aside0.mk (hbox); have n3_ := Aside0.mk ((by rw [hg]; exact (below_size (by repeat (first | (with_reducible first | exact HB.out | apply below_alloc | apply pw_below_drewN | apply below_drew1 | refine below_set ?_ GE146.out) | exact HB.out))) : w.heap.size ≤ gb157)); have n4_ := n3_; have n5_ := Aside0.mk ((by rw [hg]; exact Nat.ne_of_lt (blk_lt (g := gb146) (by (with_reducible repeat (first | refine pN ?_ _ | refine pD ?_ | refine pA ?_ _)); exact BK146.out)) : gb146 ≠ gb157)); have n6_ := Aside0.mk n5_.out.symm; clear BK146; clear HB; have BK146 := n0_; have HB := n1_; have BK157 := n2_; have GW157 := n3_; have GE157 := n4_; have NB146_157 := n5_; have NB157_146 := n6_; clear n0_ n1_ n2_ n3_ n4_ n5_ n6_; clear hb hbox hg; have hnb20 := NB157_146.out; have hnc20 := NB146_157.out; have hcz21_0 : w19.cell? ⟨gb157, 0, none⟩ = some (.int .i64 0) := (blk_cell BK157.out 0).trans rfl; have hcz21_1 : w19.cell? ⟨gb157, 1, none⟩ = some (.int .i64 0) := (blk_cell BK157.out 1).trans rfl; have hcz21_2 : w19.cell? ⟨gb157, 2, none⟩ = some (.int .i64 0) := (blk_cell BK157.out 2).trans rfl; have hcz21_3 : w19.cell? ⟨gb157, 3, none⟩ = some (.int .i64 0) := (blk_cell BK157.out 3).trans rfl; have hcz21_4 : w19.cell? ⟨gb157, 4, none⟩ = some (.int .i64 0) := (blk_cell BK157.out 4).trans rfl; have hcz21_5 : w19.cell? ⟨gb157, 5, none⟩ = some (.int .i64 0) := (blk_cell BK157.out 5).trans rfl; have hcz21_6 : w19.cell? ⟨gb157, 6, none⟩ = some (.int .i64 0) := (blk_cell BK157.out 6).trans rfl; have hcz21_7 : w19.cell? ⟨gb157, 7, none⟩ = some (.int .i64 0) := (blk_cell BK157.out 7).trans rfl; have hcz21_8 : w19.cell? ⟨gb157, 8, none⟩ = some (.bool false) := (blk_cell BK157.out 8).trans rfl; have hfz21_0 := blk_frozen BK157.out 0; have hfz21_1 := blk_frozen BK157.out 1; have hfz21_2 := blk_frozen BK157.out 2; have hfz21_3 := blk_frozen BK157.out 3; have hfz21_4 := blk_frozen BK157.out 4; have hfz21_5 := blk_frozen BK157.out 5; have hfz21_6 := blk_frozen BK157.out 6; have hfz21_7 := blk_frozen BK157.out 7; have hfz21_8 := blk_frozen BK157.out 8) | ((with_reducible refine gate_callee (f := 13) rfl ?_); refine goesL_ (some 17) rfl rfl Try.func13 (by kernel_rfl) rfl #[.agg #[.int .i64 t148, .int .i64 t149, .int .i64 t150, .int .i64 t151, .int .i64 t152, .int .i64 t153, .int .i64 t154, .int .i64 t155, .bool t156]] rfl (by (try simp only [map_toArray, map_cons, map_nil]); first | done | rfl | (simp only [length_drop, length_take]; rfl)) ?_; (with_reducible refine (cell_Of.calls k t148 t149 t150 t151 t152 t153 t154 t155 t156 t158 t159 t160 t161 _ A7.out).mono ?_); rintro e w22 ⟨rfl, hb⟩; refine ⟨_, rfl, ?_⟩; have n0_ := Aside0.mk (blk_below (g := gb146) (o := .cells #[.int .i64 a0_0, .int .i64 a0_1, .int .i64 a0_2] 23 (0, 0)) (by (with_reducible repeat (first | refine pN ?_ _ | refine pD ?_ | refine pA ?_ _)); refine blk_far ?_ NB146_157.out _; (with_reducible repeat (first | refine pN ?_ _ | refine pD ?_ | refine pA ?_ _)); refine blk_far ?_ NB146_157.out _; (with_reducible repeat (first | refine pN ?_ _ | refine pD ?_ | refine pA ?_ _)); refine blk_far ?_ NB146_157.out _; (with_reducible repeat (first | refine pN ?_ _ | refine pD ?_ | refine pA ?_ _)); refine blk_far ?_ NB146_157.out _; (with_reducible repeat (first | refine pN ?_ _ | refine pD ?_ | refine pA ?_ _)); refine blk_far ?_ NB146_157.out _; (with_reducible repeat (first | refine pN ?_ _ | refine pD ?_ | refine pA ?_ _)); refine blk_far ?_ NB146_157.out _; (with_reducible repeat (first | refine pN ?_ _ | refine pD ?_ | refine pA ?_ _)); refine blk_far ?_ NB146_157.out _; (with_reducible repeat (first | refine pN ?_ _ | refine pD ?_ | refine pA ?_ _)); refine blk_far ?_ NB146_157.out _; (with_reducible repeat (first | refine pN ?_ _ | refine pD ?_ | refine pA ?_ _)); refine blk_far ?_ NB146_157.out _; (with_reducible repeat (first | refine pN ?_ _ | refine pD ?_ | refine pA ?_ _)); exact BK146.out) hb); have n1_ := Aside0.mk (blk_below (g := gb157) (o := .cells #[.int .i64 t148, .int .i64 t149, .int .i64 t150, .int .i64 t151, .int .i64 t152, .int .i64 t153, .int .i64 t154, .int .i64 t155, .bool t156] 28 (0, 0)) (by (with_reducible repeat (first | refine pN ?_ _ | refine pD ?_ | refine pA ?_ _)); refine blk_put (cs := #[.int .i64 t148, .int .i64 t149, .int .i64 t150, .int .i64 t151, .int .i64 t152, .int .i64 t153, .int .i64 t154, .int .i64 t155, .bool false]) ?_ 8 _ rfl; (with_reducible repeat (first | refine pN ?_ _ | refine pD ?_ | refine pA ?_ _)); refine blk_put (cs := #[.int .i64 t148, .int .i64 t149, .int .i64 t150, .int .i64 t151, .int .i64 t152, .int .i64 t153, .int .i64 t154, .int .i64 0, .bool false]) ?_ 7 _ rfl; (with_reducible repeat (first | refine pN ?_ _ | refine pD ?_ | refine pA ?_ _)); refine blk_put (cs := #[.int .i64 t148, .int .i64 t149, .int .i64 t150, .int .i64 t151, .int .i64 t152, .int .i64 t153, .int .i64 0, .int .i64 0, .bool false]) ?_ 6 _ rfl; (with_reducible repeat (first | refine pN ?_ _ | refine pD ?_ | refine pA ?_ _)); refine blk_put (cs := #[.int .i64 t148, .int .i64 t149, .int .i64 t150, .int .i64 t151, .int .i64 t152, .int .i64 0, .int .i64 0, .int .i64 0, .bool false]) ?_ 5 _ rfl; (with_reducible repeat (first | refine pN ?_ _ | refine pD ?_ | refine pA ?_ _)); refine blk_put (cs := #[.int .i64 t148, .int .i64 t149, .int .i64 t150, .int .i64 t151, .int .i64 0, .int .i64 0, .int .i64 0, .int .i64 0, .bool false]) ?_ 4 _ rfl; (with_reducible repeat (first | refine pN ?_ _ | refine pD ?_ | refine pA ?_ _)); refine blk_put (cs := #[.int .i64 t148, .int .i64 t149, .int .i64 t150, .int .i64 0, .int .i64 0, .int .i64 0, .int .i64 0, .int .i64 0, .bool false]) ?_ 3 _ rfl; (with_reducible repeat (first | refine pN ?_ _ | refine pD ?_ | refine pA ?_ _)); refine blk_put (cs := #[.int .i64 t148, .int .i64 t149, .int .i64 0, .int .i64 0, .int .i64 0, .int .i64 0, .int .i64 0, .int .i64 0, .bool false]) ?_ 2 _ rfl; (with_reducible repeat (first | refine pN ?_ _ | refine pD ?_ | refine pA ?_ _)); refine blk_put (cs := #[.int .i64 t148, .int .i64 0, .int .i64 0, .int .i64 0, .int .i64 0, .int .i64 0, .int .i64 0, .int .i64 0, .bool false]) ?_ 1 _ rfl; (with_reducible repeat (first | refine pN ?_ _ | refine pD ?_ | refine pA ?_ _)); refine blk_put (cs := #[.int .i64 0, .int .i64 0, .int .i64 0, .int .i64 0, .int .i64 0, .int .i64 0, .int .i64 0, .int .i64 0, .bool false]) ?_ 0 _ rfl; (with_reducible repeat (first | refine pN ?_ _ | refine pD ?_ | refine pA ?_ _)); exact BK157.out) hb); have n2_ := Aside0.mk (below_step (by repeat (first | (with_reducible first | exact HB.out | apply below_alloc | apply pw_below_drewN | apply below_drew1 | refine below_set ?_ GE146.out | refine below_set ?_ GE157.out) | exact HB.out)) hb); clear BK146; clear BK157; clear HB; have BK146 := n0_; have BK157 := n1_; have HB := n2_; clear n0_ n1_ n2_; (try clear hb); (try clear hb2); (try clear hk); (try clear hi)) | ((with_reducible refine gate_dst (N := 8) rfl ?_); refine box_event ?hg (N := 8) ?hd (cs := #[.int .i64 0, .int .i64 0, .int .i64 0, .int .i64 0]) (t := 31) ?hr ?_; (case hd => rfl); (case hg => rfl); (case hr => first | (go_simp; done) | (go_simp; rfl)); intro gb162 hg w23 hbox hb; have n0_ := Aside0.mk (blk_below (g := gb146) (by (with_reducible repeat (first | refine pN ?_ _ | refine pD ?_ | refine pA ?_ _)); exact BK146.out) hb); have n1_ := Aside0.mk (blk_below (g := gb157) (by (with_reducible repeat (first | refine pN ?_ _ | refine pD ?_ | refine pA ?_ _)); exact BK157.out) hb); have n2_ := Aside0.mk (below_step (by repeat (first | (with_reducible first | exact HB.out | apply below_alloc | apply pw_below_drewN | apply below_drew1 | refine below_set ?_ GE146.out | refine below_set ?_ GE157.out) | exact HB.out)) hb); have n3_ := Aside0.mk (hbox); have n4_ := Aside0.mk ((by rw [hg]; exact (below_size (by repeat (first | (with_reducible first | exact HB.out | apply below_alloc | apply pw_below_drewN | apply below_drew1 | refine below_set ?_ GE146.out | refine below_set ?_ GE157.out) | exact HB.out))) : w.heap.size ≤ gb162)); have n5_ := n4_; have n6_ := Aside0.mk ((by rw [hg]; exact Nat.ne_of_lt (blk_lt (g := gb146) (by (with_reducible repeat (first | refine pN ?_ _ | refine pD ?_ | refine pA ?_ _)); exact BK146.out)) : gb146 ≠ gb162)); have n7_ := Aside0.mk n6_.out.symm; have n8_ := Aside0.mk ((by rw [hg]; exact Nat.ne_of_lt (blk_lt (g := gb157) (by (with_reducible repeat (first | refine pN ?_ _ | refine pD ?_ | refine pA ?_ _)); exact BK157.out)) : gb157 ≠ gb162)); have n9_ := Aside0.mk n8_.out.symm; clear BK146; clear BK157; clear HB; have BK146 := n0_; have BK157 := n1_; have HB := n2_; have BK162 := n3_; have GW162 := n4_; have GE162 := n5_; have NB146_162 := n6_; have NB162_146 := n7_; have NB157_162 := n8_; have NB162_157 := n9_; clear n0_ n1_ n2_ n3_ n4_ n5_ n6_ n7_ n8_ n9_; clear hb hbox hg; have hnb24 := NB162_146.out; have hnc24 := NB146_162.out; have hnb25 := NB162_157.out; have hnc25 := NB157_162.out; have hcz26_0 : w23.cell? ⟨gb162, 0, none⟩ = some (.int .i64 0) := (blk_cell BK162.out 0).trans rfl; have hcz26_1 : w23.cell? ⟨gb162, 1, none⟩ = some (.int .i64 0) := (blk_cell BK162.out 1).trans rfl; have hcz26_2 : w23.cell? ⟨gb162, 2, none⟩ = some (.int .i64 0) := (blk_cell BK162.out 2).trans rfl; have hcz26_3 : w23.cell? ⟨gb162, 3, none⟩ = some (.int .i64 0) := (blk_cell BK162.out 3).trans rfl; have hfz26_0 := blk_frozen BK162.out 0; have hfz26_1 := blk_frozen BK162.out 1; have hfz26_2 := blk_frozen BK162.out 2; have hfz26_3 := blk_frozen BK162.out 3) | ((with_reducible refine gate_callee (f := 15) rfl ?_); refine goesL_ (some 23) rfl rfl Try.func15 (by kernel_rfl) rfl #[.int .i64 5, .int .i64 (Go.bits .and .i64 a1 63)] rfl (by (try simp only [map_toArray, map_cons, map_nil]); first | done | rfl | (simp only [length_drop, length_take]; rfl)) ?_; (with_reducible refine (cell_New.calls 5 (Go.bits .and .i64 a1 63) t163 t164 t165 t166 _ A8.out).mono ?_); rintro e w27 ⟨rfl, hb⟩; refine ⟨_, rfl, ?_⟩; have n0_ := Aside0.mk (blk_below (g := gb146) (o := .cells #[.int .i64 a0_0, .int .i64 a0_1, .int .i64 a0_2] 23 (0, 0)) (by (with_reducible repeat (first | refine pN ?_ _ | refine pD ?_ | refine pA ?_ _)); refine blk_far ?_ NB146_162.out _; (with_reducible repeat (first | refine pN ?_ _ | refine pD ?_ | refine pA ?_ _)); refine blk_far ?_ NB146_162.out _; (with_reducible repeat (first | refine pN ?_ _ | refine pD ?_ | refine pA ?_ _)); refine blk_far ?_ NB146_162.out _; (with_reducible repeat (first | refine pN ?_ _ | refine pD ?_ | refine pA ?_ _)); refine blk_far ?_ NB146_162.out _; (with_reducible repeat (first | refine pN ?_ _ | refine pD ?_ | refine pA ?_ _)); exact BK146.out) hb); have n1_ := Aside0.mk (blk_below (g := gb157) (o := .cells #[.int .i64 t148, .int .i64 t149, .int .i64 t150, .int .i64 t151, .int .i64 t152, .int .i64 t153, .int .i64 t154, .int .i64 t155, .bool t156] 28 (0, 0)) (by (with_reducible repeat (first | refine pN ?_ _ | refine pD ?_ | refine pA ?_ _)); refine blk_far ?_ NB157_162.out _; (with_reducible repeat (first | refine pN ?_ _ | refine pD ?_ | refine pA ?_ _)); refine blk_far ?_ NB157_162.out _; (with_reducible repeat (first | refine pN ?_ _ | refine pD ?_ | refine pA ?_ _)); refine blk_far ?_ NB157_162.out _; (with_reducible repeat (first | refine pN ?_ _ | refine pD ?_ | refine pA ?_ _)); refine blk_far ?_ NB157_162.out _; (with_reducible repeat (first | refine pN ?_ _ | refine pD ?_ | refine pA ?_ _)); exact BK157.out) hb); have n2_ := Aside0.mk (blk_below (g := gb162) (o := .cells #[.int .i64 t158, .int .i64 t159, .int .i64 t160, .int .i64 t161] 31 (0, 0)) (by (with_reducible repeat (first | refine pN ?_ _ | refine pD ?_ | refine pA ?_ _)); refine blk_put (cs := #[.int .i64 t158, .int .i64 t159, .int .i64 t160, .int .i64 0]) ?_ 3 _ rfl; (with_reducible repeat (first | refine pN ?_ _ | refine pD ?_ | refine pA ?_ _)); refine blk_put (cs := #[.int .i64 t158, .int .i64 t159, .int .i64 0, .int .i64 0]) ?_ 2 _ rfl; (with_reducible repeat (first | refine pN ?_ _ | refine pD ?_ | refine pA ?_ _)); refine blk_put (cs := #[.int .i64 t158, .int .i64 0, .int .i64 0, .int .i64 0]) ?_ 1 _ rfl; (with_reducible repeat (first | refine pN ?_ _ | refine pD ?_ | refine pA ?_ _)); refine blk_put (cs := #[.int .i64 0, .int .i64 0, .int .i64 0, .int .i64 0]) ?_ 0 _ rfl; (with_reducible repeat (first | refine pN ?_ _ | refine pD ?_ | refine pA ?_ _)); exact BK162.out) hb); have n3_ := Aside0.mk (below_step (by repeat (first | (with_reducible first | exact HB.out | apply below_alloc | apply pw_below_drewN | apply below_drew1 | refine below_set ?_ GE146.out | refine below_set ?_ GE157.out | refine below_set ?_ GE162.out) | exact HB.out)) hb); clear BK146; clear BK157; clear BK162; clear HB; have BK146 := n0_; have BK157 := n1_; have BK162 := n2_; have HB := n3_; clear n0_ n1_ n2_ n3_; (try clear hb); (try clear hb2); (try clear hk); (try clear hi)) | ((with_reducible refine gate_callee (f := 15) rfl ?_); refine goesL_ (some 24) rfl rfl Try.func15 (by kernel_rfl) rfl #[.int .i64 5, .int .i64 0] rfl (by (try simp only [map_toArray, map_cons, map_nil]); first | done | rfl | (simp only [length_drop, length_take]; rfl)) ?_; (with_reducible refine (cell_New.calls 5 0 t167 t168 t169 t170 _ A9.out).mono ?_); rintro e w28 ⟨rfl, hb⟩; refine ⟨_, rfl, ?_⟩; have n0_ := Aside0.mk (blk_below (g := gb146) (by (with_reducible repeat (first | refine pN ?_ _ | refine pD ?_ | refine pA ?_ _)); exact BK146.out) hb); have n1_ := Aside0.mk (blk_below (g := gb157) (by (with_reducible repeat (first | refine pN ?_ _ | refine pD ?_ | refine pA ?_ _)); exact BK157.out) hb); have n2_ := Aside0.mk (blk_below (g := gb162) (by (with_reducible repeat (first | refine pN ?_ _ | refine pD ?_ | refine pA ?_ _)); exact BK162.out) hb); have n3_ := Aside0.mk (below_step (by repeat (first | (with_reducible first | exact HB.out | apply below_alloc | apply pw_below_drewN | apply below_drew1 | refine below_set ?_ GE146.out | refine below_set ?_ GE157.out | refine below_set ?_ GE162.out) | exact HB.out)) hb); clear BK146; clear BK157; clear BK162; clear HB; have BK146 := n0_; have BK157 := n1_; have BK162 := n2_; have HB := n3_; clear n0_ n1_ n2_ n3_; (try clear hb); (try clear hb2); (try clear hk); (try clear hi)) | ((with_reducible refine gate_dst (N := 9) rfl ?_); refine box_event ?hg (N := 9) ?hd (cs := #[.int .i64 0, .int .i64 0, .int .i64 0, .int .i64 0]) (t := 36) ?hr ?_; (case hd => rfl); (case hg => rfl); (case hr => first | (go_simp; done) | (go_simp; rfl)); intro gb171 hg w29 hbox hb; have n0_ := Aside0.mk (blk_below (g := gb146) (by (with_reducible repeat (first | refine pN ?_ _ | refine pD ?_ | refine pA ?_ _)); exact BK146.out) hb); have n1_ := Aside0.mk (blk_below (g := gb157) (by (with_reducible repeat (first | refine pN ?_ _ | refine pD ?_ | refine pA ?_ _)); exact BK157.out) hb); have n2_ := Aside0.mk (blk_below (g := gb162) (by (with_reducible repeat (first | refine pN ?_ _ | refine pD ?_ | refine pA ?_ _)); exact BK162.out) hb); have n3_ := Aside0.mk (below_step (by repeat (first | (with_reducible first | exact HB.out | apply below_alloc | apply pw_below_drewN | apply below_drew1 | refine below_set ?_ GE146.out | refine below_set ?_ GE157.out | refine below_set ?_ GE162.out) | exact HB.out)) hb); have n4_ := Aside0.mk (hbox); have n5_ := Aside0.mk ((by rw [hg]; exact (below_size (by repeat (first | (with_reducible first | exact HB.out | apply below_alloc | apply pw_below_drewN | apply below_drew1 | refine below_set ?_ GE146.out | refine below_set ?_ GE157.out | refine below_set ?_ GE162.out) | exact HB.out))) : w.heap.size ≤ gb171)); have n6_ := n5_; have n7_ := Aside0.mk ((by rw [hg]; exact Nat.ne_of_lt (blk_lt (g := gb146) (by (with_reducible repeat (first | refine pN ?_ _ | refine pD ?_ | refine pA ?_ _)); exact BK146.out)) : gb146 ≠ gb171)); have n8_ := Aside0.mk n7_.out.symm; have n9_ := Aside0.mk ((by rw [hg]; exact Nat.ne_of_lt (blk_lt (g := gb157) (by (with_reducible repeat (first | refine pN ?_ _ | refine pD ?_ | refine pA ?_ _)); exact BK157.out)) : gb157 ≠ gb171)); have n10_ := Aside0.mk n9_.out.symm; have n11_ := Aside0.mk ((by rw [hg]; exact Nat.ne_of_lt (blk_lt (g := gb162) (by (with_reducible repeat (first | refine pN ?_ _ | refine pD ?_ | refine pA ?_ _)); exact BK162.out)) : gb162 ≠ gb171)); have n12_ := Aside0.mk n11_.out.symm; clear BK146; clear BK157; clear BK162; clear HB; have BK146 := n0_; have BK157 := n1_; have BK162 := n2_; have HB := n3_; have BK171 := n4_; have GW171 := n5_; have GE171 := n6_; have NB146_171 := n7_; have NB171_146 := n8_; have NB157_171 := n9_; have NB171_157 := n10_; have NB162_171 := n11_; have NB171_162 := n12_; clear n0_ n1_ n2_ n3_ n4_ n5_ n6_ n7_ n8_ n9_ n10_ n11_ n12_; clear hb hbox hg) | ((with_reducible refine gate_dst (N := 10) rfl ?_); refine box_event ?hg (N := 10) ?hd (cs := #[.int .i64 0, .int .i64 0, .int .i64 0, .int .i64 0]) (t := 36) ?hr ?_; (case hd => rfl); (case hg => rfl); (case hr => first | (go_simp; done) | (go_simp; rfl)); intro gb172 hg w30 hbox hb; have n0_ := Aside0.mk (blk_below (g := gb146) (by (with_reducible repeat (first | refine pN ?_ _ | refine pD ?_ | refine pA ?_ _)); exact BK146.out) hb); have n1_ := Aside0.mk (blk_below (g := gb157) (by (with_reducible repeat (first | refine pN ?_ _ | refine pD ?_ | refine pA ?_ _)); exact BK157.out) hb); have n2_ := Aside0.mk (blk_below (g := gb162) (by (with_reducible repeat (first | refine pN ?_ _ | refine pD ?_ | refine pA ?_ _)); exact BK162.out) hb); have n3_ := Aside0.mk (blk_below (g := gb171) (by (with_reducible repeat (first | refine pN ?_ _ | refine pD ?_ | refine pA ?_ _)); exact BK171.out) hb); have n4_ := Aside0.mk (below_step (by repeat (first | (with_reducible first | exact HB.out | apply below_alloc | apply pw_below_drewN | apply below_drew1 | refine below_set ?_ GE146.out | refine below_set ?_ GE157.out | refine below_set ?_ GE162.out | refine below_set ?_ GE171.out) | exact HB.out)) hb); have n5_ := Aside0.mk (hbox); have n6_ := Aside0.mk ((by rw [hg]; exact (below_size (by repeat (first | (with_reducible first | exact HB.out | apply below_alloc | apply pw_below_drewN | apply below_drew1 | refine below_set ?_ GE146.out | refine below_set ?_ GE157.out | refine below_set ?_ GE162.out | refine below_set ?_ GE171.out) | exact HB.out))) : w.heap.size ≤ gb172)); have n7_ := n6_; have n8_ := Aside0.mk ((by rw [hg]; exact Nat.ne_of_lt (blk_lt (g := gb146) (by (with_reducible repeat (first | refine pN ?_ _ | refine pD ?_ | refine pA ?_ _)); exact BK146.out)) : gb146 ≠ gb172)); have n9_ := Aside0.mk n8_.out.symm; have n10_ := Aside0.mk ((by rw [hg]; exact Nat.ne_of_lt (blk_lt (g := gb157) (by (with_reducible repeat (first | refine pN ?_ _ | refine pD ?_ | refine pA ?_ _)); exact BK157.out)) : gb157 ≠ gb172)); have n11_ := Aside0.mk n10_.out.symm; have n12_ := Aside0.mk ((by rw [hg]; exact Nat.ne_of_lt (blk_lt (g := gb162) (by (with_reducible repeat (first | refine pN ?_ _ | refine pD ?_ | refine pA ?_ _)); exact BK162.out)) : gb162 ≠ gb172)); have n13_ := Aside0.mk n12_.out.symm; have n14_ := Aside0.mk ((by rw [hg]; exact Nat.ne_of_lt (blk_lt (g := gb171) (by (with_reducible repeat (first | refine pN ?_ _ | refine pD ?_ | refine pA ?_ _)); exact BK171.out)) : gb171 ≠ gb172)); have n15_ := Aside0.mk n14_.out.symm; clear BK146; clear BK157; clear BK162; clear BK171; clear HB; have BK146 := n0_; have BK157 := n1_; have BK162 := n2_; have BK171 := n3_; have HB := n4_; have BK172 := n5_; have GW172 := n6_; have GE172 := n7_; have NB146_172 := n8_; have NB172_146 := n9_; have NB157_172 := n10_; have NB172_157 := n11_; have NB162_172 := n12_; have NB172_162 := n13_; have NB171_172 := n14_; have NB172_171 := n15_; clear n0_ n1_ n2_ n3_ n4_ n5_ n6_ n7_ n8_ n9_ n10_ n11_ n12_ n13_ n14_ n15_; clear hb hbox hg; have hnb31 := NB171_146.out; have hnc31 := NB146_171.out; have hnb32 := NB171_157.out; have hnc32 := NB157_171.out; have hnb33 := NB171_162.out; have hnc33 := NB162_171.out; have hnb34 := NB171_172.out; have hnc34 := NB172_171.out; have hcz35_0 : w30.cell? ⟨gb171, 0, none⟩ = some (.int .i64 0) := (blk_cell BK171.out 0).trans rfl; have hcz35_1 : w30.cell? ⟨gb171, 1, none⟩ = some (.int .i64 0) := (blk_cell BK171.out 1).trans rfl; have hcz35_2 : w30.cell? ⟨gb171, 2, none⟩ = some (.int .i64 0) := (blk_cell BK171.out 2).trans rfl; have hcz35_3 : w30.cell? ⟨gb171, 3, none⟩ = some (.int .i64 0) := (blk_cell BK171.out 3).trans rfl; have hfz35_0 := blk_frozen BK171.out 0; have hfz35_1 := blk_frozen BK171.out 1; have hfz35_2 := blk_frozen BK171.out 2; have hfz35_3 := blk_frozen BK171.out 3; have hnb36 := NB172_146.out; have hnc36 := NB146_172.out; have hnb37 := NB172_157.out; have hnc37 := NB157_172.out; have hnb38 := NB172_162.out; have hnc38 := NB162_172.out; have hcz39_0 : w30.cell? ⟨gb172, 0, none⟩ = some (.int .i64 0) := (blk_cell BK172.out 0).trans rfl; have hcz39_1 : w30.cell? ⟨gb172, 1, none⟩ = some (.int .i64 0) := (blk_cell BK172.out 1).trans rfl; have hcz39_2 : w30.cell? ⟨gb172, 2, none⟩ = some (.int .i64 0) := (blk_cell BK172.out 2).trans rfl; have hcz39_3 : w30.cell? ⟨gb172, 3, none⟩ = some (.int .i64 0) := (blk_cell BK172.out 3).trans rfl; have hfz39_0 := blk_frozen BK172.out 0; have hfz39_1 := blk_frozen BK172.out 1; have hfz39_2 := blk_frozen BK172.out 2; have hfz39_3 := blk_frozen BK172.out 3; have hcz40_0 : w30.cell? ⟨gb157, 0, none⟩ = some (.int .i64 t148) := (blk_cell BK157.out 0).trans rfl; have hcz40_1 : w30.cell? ⟨gb157, 1, none⟩ = some (.int .i64 t149) := (blk_cell BK157.out 1).trans rfl; have hcz40_2 : w30.cell? ⟨gb157, 2, none⟩ = some (.int .i64 t150) := (blk_cell BK157.out 2).trans rfl; have hcz40_3 : w30.cell? ⟨gb157, 3, none⟩ = some (.int .i64 t151) := (blk_cell BK157.out 3).trans rfl; have hcz40_4 : w30.cell? ⟨gb157, 4, none⟩ = some (.int .i64 t152) := (blk_cell BK157.out 4).trans rfl; have hcz40_5 : w30.cell? ⟨gb157, 5, none⟩ = some (.int .i64 t153) := (blk_cell BK157.out 5).trans rfl; have hcz40_6 : w30.cell? ⟨gb157, 6, none⟩ = some (.int .i64 t154) := (blk_cell BK157.out 6).trans rfl; have hcz40_7 : w30.cell? ⟨gb157, 7, none⟩ = some (.int .i64 t155) := (blk_cell BK157.out 7).trans rfl; have hcz40_8 : w30.cell? ⟨gb157, 8, none⟩ = some (.bool t156) := (blk_cell BK157.out 8).trans rfl; have hfz40_0 := blk_frozen BK157.out 0; have hfz40_1 := blk_frozen BK157.out 1; have hfz40_2 := blk_frozen BK157.out 2; have hfz40_3 := blk_frozen BK157.out 3; have hfz40_4 := blk_frozen BK157.out 4; have hfz40_5 := blk_frozen BK157.out 5; have hfz40_6 := blk_frozen BK157.out 6; have hfz40_7 := blk_frozen BK157.out 7; have hfz40_8 := blk_frozen BK157.out 8))
        have n0_ : Aside0 (((((((((w30.setCell ⟨gb171, 0, none⟩ (.int .i64 t163)).setCell ⟨gb171, 1, none⟩ (.int .i64 t164)).setCell ⟨gb171, 2, none⟩ (.int .i64 t165)).setCell ⟨gb171, 3, none⟩ (.int .i64 t166)).setCell ⟨gb172, 0, none⟩ (.int .i64 t167)).setCell ⟨gb172, 1, none⟩ (.int .i64 t168)).setCell ⟨gb172, 2, none⟩ (.int .i64 t169)).setCell ⟨gb172, 3, none⟩ (.int .i64 t170)).heap[gb146]? = some (.cells #[.int .i64 a0_0, .int .i64 a0_1, .int .i64 a0_2] 23 (0, 0))) := ⟨by (with_reducible repeat (first | refine pN ?_ _ | refine pD ?_ | refine pA ?_ _)); refine blk_far ?_ NB146_172.out _; (with_reducible repeat (first | refine pN ?_ _ | refine pD ?_ | refine pA ?_ _)); refine blk_far ?_ NB146_172.out _; (with_reducible repeat (first | refine pN ?_ _ | refine pD ?_ | refine pA ?_ _)); refine blk_far ?_ NB146_172.out _; (with_reducible repeat (first | refine pN ?_ _ | refine pD ?_ | refine pA ?_ _)); refine blk_far ?_ NB146_172.out _; (with_reducible repeat (first | refine pN ?_ _ | refine pD ?_ | refine pA ?_ _)); refine blk_far ?_ NB146_171.out _; (with_reducible repeat (first | refine pN ?_ _ | refine pD ?_ | refine pA ?_ _)); refine blk_far ?_ NB146_171.out _; (with_reducible repeat (first | refine pN ?_ _ | refine pD ?_ | refine pA ?_ _)); refine blk_far ?_ NB146_171.out _; (with_reducible repeat (first | refine pN ?_ _ | refine pD ?_ | refine pA ?_ _)); refine blk_far ?_ NB146_171.out _; (with_reducible repeat (first | refine pN ?_ _ | refine pD ?_ | refine pA ?_ _)); exact BK146.out⟩
        have n1_ : Aside0 (((((((((w30.setCell ⟨gb171, 0, none⟩ (.int .i64 t163)).setCell ⟨gb171, 1, none⟩ (.int .i64 t164)).setCell ⟨gb171, 2, none⟩ (.int .i64 t165)).setCell ⟨gb171, 3, none⟩ (.int .i64 t166)).setCell ⟨gb172, 0, none⟩ (.int .i64 t167)).setCell ⟨gb172, 1, none⟩ (.int .i64 t168)).setCell ⟨gb172, 2, none⟩ (.int .i64 t169)).setCell ⟨gb172, 3, none⟩ (.int .i64 t170)).heap[gb157]? = some (.cells #[.int .i64 t148, .int .i64 t149, .int .i64 t150, .int .i64 t151, .int .i64 t152, .int .i64 t153, .int .i64 t154, .int .i64 t155, .bool t156] 28 (0, 0))) := ⟨by (with_reducible repeat (first | refine pN ?_ _ | refine pD ?_ | refine pA ?_ _)); refine blk_far ?_ NB157_172.out _; (with_reducible repeat (first | refine pN ?_ _ | refine pD ?_ | refine pA ?_ _)); refine blk_far ?_ NB157_172.out _; (with_reducible repeat (first | refine pN ?_ _ | refine pD ?_ | refine pA ?_ _)); refine blk_far ?_ NB157_172.out _; (with_reducible repeat (first | refine pN ?_ _ | refine pD ?_ | refine pA ?_ _)); refine blk_far ?_ NB157_172.out _; (with_reducible repeat (first | refine pN ?_ _ | refine pD ?_ | refine pA ?_ _)); refine blk_far ?_ NB157_171.out _; (with_reducible repeat (first | refine pN ?_ _ | refine pD ?_ | refine pA ?_ _)); refine blk_far ?_ NB157_171.out _; (with_reducible repeat (first | refine pN ?_ _ | refine pD ?_ | refine pA ?_ _)); refine blk_far ?_ NB157_171.out _; (with_reducible repeat (first | refine pN ?_ _ | refine pD ?_ | refine pA ?_ _)); refine blk_far ?_ NB157_171.out _; (with_reducible repeat (first | refine pN ?_ _ | refine pD ?_ | refine pA ?_ _)); exact BK157.out⟩
        have n2_ : Aside0 (((((((((w30.setCell ⟨gb171, 0, none⟩ (.int .i64 t163)).setCell ⟨gb171, 1, none⟩ (.int .i64 t164)).setCell ⟨gb171, 2, none⟩ (.int .i64 t165)).setCell ⟨gb171, 3, none⟩ (.int .i64 t166)).setCell ⟨gb172, 0, none⟩ (.int .i64 t167)).setCell ⟨gb172, 1, none⟩ (.int .i64 t168)).setCell ⟨gb172, 2, none⟩ (.int .i64 t169)).setCell ⟨gb172, 3, none⟩ (.int .i64 t170)).heap[gb162]? = some (.cells #[.int .i64 t158, .int .i64 t159, .int .i64 t160, .int .i64 t161] 31 (0, 0))) := ⟨by (with_reducible repeat (first | refine pN ?_ _ | refine pD ?_ | refine pA ?_ _)); refine blk_far ?_ NB162_172.out _; (with_reducible repeat (first | refine pN ?_ _ | refine pD ?_ | refine pA ?_ _)); refine blk_far ?_ NB162_172.out _; (with_reducible repeat (first | refine pN ?_ _ | refine pD ?_ | refine pA ?_ _)); refine blk_far ?_ NB162_172.out _; (with_reducible repeat (first | refine pN ?_ _ | refine pD ?_ | refine pA ?_ _)); refine blk_far ?_ NB162_172.out _; (with_reducible repeat (first | refine pN ?_ _ | refine pD ?_ | refine pA ?_ _)); refine blk_far ?_ NB162_171.out _; (with_reducible repeat (first | refine pN ?_ _ | refine pD ?_ | refine pA ?_ _)); refine blk_far ?_ NB162_171.out _; (with_reducible repeat (first | refine pN ?_ _ | refine pD ?_ | refine pA ?_ _)); refine blk_far ?_ NB162_171.out _; (with_reducible repeat (first | refine pN ?_ _ | refine pD ?_ | refine pA ?_ _)); refine blk_far ?_ NB162_171.out _; (with_reducible repeat (first | refine pN ?_ _ | refine pD ?_ | refine pA ?_ _)); exact BK162.out⟩
        have n3_ : Aside0 (((((((((w30.setCell ⟨gb171, 0, none⟩ (.int .i64 t163)).setCell ⟨gb171, 1, none⟩ (.int .i64 t164)).setCell ⟨gb171, 2, none⟩ (.int .i64 t165)).setCell ⟨gb171, 3, none⟩ (.int .i64 t166)).setCell ⟨gb172, 0, none⟩ (.int .i64 t167)).setCell ⟨gb172, 1, none⟩ (.int .i64 t168)).setCell ⟨gb172, 2, none⟩ (.int .i64 t169)).setCell ⟨gb172, 3, none⟩ (.int .i64 t170)).heap[gb171]? = some (.cells #[.int .i64 t163, .int .i64 t164, .int .i64 t165, .int .i64 t166] 36 (0, 0))) := ⟨by (with_reducible repeat (first | refine pN ?_ _ | refine pD ?_ | refine pA ?_ _)); refine blk_far ?_ NB171_172.out _; (with_reducible repeat (first | refine pN ?_ _ | refine pD ?_ | refine pA ?_ _)); refine blk_far ?_ NB171_172.out _; (with_reducible repeat (first | refine pN ?_ _ | refine pD ?_ | refine pA ?_ _)); refine blk_far ?_ NB171_172.out _; (with_reducible repeat (first | refine pN ?_ _ | refine pD ?_ | refine pA ?_ _)); refine blk_far ?_ NB171_172.out _; (with_reducible repeat (first | refine pN ?_ _ | refine pD ?_ | refine pA ?_ _)); refine blk_put (cs := #[.int .i64 t163, .int .i64 t164, .int .i64 t165, .int .i64 0]) ?_ 3 _ rfl; (with_reducible repeat (first | refine pN ?_ _ | refine pD ?_ | refine pA ?_ _)); refine blk_put (cs := #[.int .i64 t163, .int .i64 t164, .int .i64 0, .int .i64 0]) ?_ 2 _ rfl; (with_reducible repeat (first | refine pN ?_ _ | refine pD ?_ | refine pA ?_ _)); refine blk_put (cs := #[.int .i64 t163, .int .i64 0, .int .i64 0, .int .i64 0]) ?_ 1 _ rfl; (with_reducible repeat (first | refine pN ?_ _ | refine pD ?_ | refine pA ?_ _)); refine blk_put (cs := #[.int .i64 0, .int .i64 0, .int .i64 0, .int .i64 0]) ?_ 0 _ rfl; (with_reducible repeat (first | refine pN ?_ _ | refine pD ?_ | refine pA ?_ _)); exact BK171.out⟩
        have n4_ : Aside0 (((((((((w30.setCell ⟨gb171, 0, none⟩ (.int .i64 t163)).setCell ⟨gb171, 1, none⟩ (.int .i64 t164)).setCell ⟨gb171, 2, none⟩ (.int .i64 t165)).setCell ⟨gb171, 3, none⟩ (.int .i64 t166)).setCell ⟨gb172, 0, none⟩ (.int .i64 t167)).setCell ⟨gb172, 1, none⟩ (.int .i64 t168)).setCell ⟨gb172, 2, none⟩ (.int .i64 t169)).setCell ⟨gb172, 3, none⟩ (.int .i64 t170)).heap[gb172]? = some (.cells #[.int .i64 t167, .int .i64 t168, .int .i64 t169, .int .i64 t170] 36 (0, 0))) := ⟨by (with_reducible repeat (first | refine pN ?_ _ | refine pD ?_ | refine pA ?_ _)); refine blk_put (cs := #[.int .i64 t167, .int .i64 t168, .int .i64 t169, .int .i64 0]) ?_ 3 _ rfl; (with_reducible repeat (first | refine pN ?_ _ | refine pD ?_ | refine pA ?_ _)); refine blk_put (cs := #[.int .i64 t167, .int .i64 t168, .int .i64 0, .int .i64 0]) ?_ 2 _ rfl; (with_reducible repeat (first | refine pN ?_ _ | refine pD ?_ | refine pA ?_ _)); refine blk_put (cs := #[.int .i64 t167, .int .i64 0, .int .i64 0, .int .i64 0]) ?_ 1 _ rfl; (with_reducible repeat (first | refine pN ?_ _ | refine pD ?_ | refine pA ?_ _)); refine blk_put (cs := #[.int .i64 0, .int .i64 0, .int .i64 0, .int .i64 0]) ?_ 0 _ rfl; (with_reducible repeat (first | refine pN ?_ _ | refine pD ?_ | refine pA ?_ _)); refine blk_far ?_ NB172_171.out _; (with_reducible repeat (first | refine pN ?_ _ | refine pD ?_ | refine pA ?_ _)); refine blk_far ?_ NB172_171.out _; (with_reducible repeat (first | refine pN ?_ _ | refine pD ?_ | refine pA ?_ _)); refine blk_far ?_ NB172_171.out _; (with_reducible repeat (first | refine pN ?_ _ | refine pD ?_ | refine pA ?_ _)); refine blk_far ?_ NB172_171.out _; (with_reducible repeat (first | refine pN ?_ _ | refine pD ?_ | refine pA ?_ _)); exact BK172.out⟩
        have n5_ : Aside0 (Below w.heap.size w ((((((((w30.setCell ⟨gb171, 0, none⟩ (.int .i64 t163)).setCell ⟨gb171, 1, none⟩ (.int .i64 t164)).setCell ⟨gb171, 2, none⟩ (.int .i64 t165)).setCell ⟨gb171, 3, none⟩ (.int .i64 t166)).setCell ⟨gb172, 0, none⟩ (.int .i64 t167)).setCell ⟨gb172, 1, none⟩ (.int .i64 t168)).setCell ⟨gb172, 2, none⟩ (.int .i64 t169)).setCell ⟨gb172, 3, none⟩ (.int .i64 t170))) := ⟨by repeat (first | (with_reducible first | exact HB.out | apply below_alloc | apply pw_below_drewN | apply below_drew1 | refine below_set ?_ GE146.out | refine below_set ?_ GE157.out | refine below_set ?_ GE162.out | refine below_set ?_ GE171.out | refine below_set ?_ GE172.out) | exact HB.out)⟩
        (try clear BK146)
        (try clear BK157)
        (try clear BK162)
        (try clear BK171)
        (try clear BK172)
        (try clear HB)
        generalize ((((((((w30.setCell ⟨gb171, 0, none⟩ (.int .i64 t163)).setCell ⟨gb171, 1, none⟩ (.int .i64 t164)).setCell ⟨gb171, 2, none⟩ (.int .i64 t165)).setCell ⟨gb171, 3, none⟩ (.int .i64 t166)).setCell ⟨gb172, 0, none⟩ (.int .i64 t167)).setCell ⟨gb172, 1, none⟩ (.int .i64 t168)).setCell ⟨gb172, 2, none⟩ (.int .i64 t169)).setCell ⟨gb172, 3, none⟩ (.int .i64 t170)) = w41 at n0_ n1_ n2_ n3_ n4_ n5_ ⊢
        have BK146 := n0_
        have BK157 := n1_
        have BK162 := n2_
        have BK171 := n3_
        have BK172 := n4_
        have HB := n5_
        clear n0_ n1_ n2_ n3_ n4_ n5_
        have n0_ := Aside0.mk (blk_drew BK146.out)
        have n1_ := Aside0.mk (blk_drew BK157.out)
        have n2_ := Aside0.mk (blk_drew BK162.out)
        have n3_ := Aside0.mk (blk_drew BK171.out)
        have n4_ := Aside0.mk (blk_drew BK172.out)
        have n5_ := Aside0.mk (below_drew1 HB.out)
        clear BK146
        clear BK157
        clear BK162
        clear BK171
        clear BK172
        clear HB
        have BK146 := n0_
        have BK157 := n1_
        have BK162 := n2_
        have BK171 := n3_
        have BK172 := n4_
        have HB := n5_
        clear n0_ n1_ n2_ n3_ n4_ n5_
        refine start_ (n := 20) (S := fun w' => w'.cell? ⟨gb171, 0, none⟩ = some (.int .i64 t163) ∧ w'.cell? ⟨gb171, 1, none⟩ = some (.int .i64 t164) ∧ w'.cell? ⟨gb171, 2, none⟩ = some (.int .i64 t165) ∧ w'.cell? ⟨gb171, 3, none⟩ = some (.int .i64 t166) ∧ w'.cell? ⟨gb162, 0, none⟩ = some (.int .i64 t158) ∧ w'.cell? ⟨gb162, 1, none⟩ = some (.int .i64 t159) ∧ w'.cell? ⟨gb162, 2, none⟩ = some (.int .i64 t160) ∧ w'.cell? ⟨gb162, 3, none⟩ = some (.int .i64 t161) ∧ w'.cell? ⟨gb172, 0, none⟩ = some (.int .i64 t167) ∧ w'.cell? ⟨gb172, 1, none⟩ = some (.int .i64 t168) ∧ w'.cell? ⟨gb172, 2, none⟩ = some (.int .i64 t169) ∧ w'.cell? ⟨gb172, 3, none⟩ = some (.int .i64 t170)) (ds := []) #[false, false, false, false, false, false, false, false, false, false, false, false, false, false, false, false, false, false, false, false] (by kernel_rfl) rfl rfl ⟨(blk_cell BK171.out 0).trans rfl, (blk_cell BK171.out 1).trans rfl, (blk_cell BK171.out 2).trans rfl, (blk_cell BK171.out 3).trans rfl, (blk_cell BK162.out 0).trans rfl, (blk_cell BK162.out 1).trans rfl, (blk_cell BK162.out 2).trans rfl, (blk_cell BK162.out 3).trans rfl, (blk_cell BK172.out 0).trans rfl, (blk_cell BK172.out 1).trans rfl, (blk_cell BK172.out 2).trans rfl, (blk_cell BK172.out 3).trans rfl⟩ (fun hHeld => ?_); refine with_tabW weighbridgelaw09_CellCarry.tab9 weighbridgelaw09_CellCarry.bits9 (fun HT_ HW_ => ?_)
        generalize w41.drew = w42 at BK146 BK157 BK162 BK171 BK172 HB hHeld ⊢
        refine pure_ (i := 2) (N := some 31) (v := ?_) (a' := ?_) #[false, false, true, false, false, false, false, false, false, false, false, false, false, false, false, false, false, false, false, false] rfl rfl (any_of HT_.out (by kernel_rfl)) (fun _ _ _ h => h) (Or.inl ⟨by rfl, ?_⟩) ?_ ?_
        rotate_left
        · intro w'
          go_simp
          with_reducible rfl
        rotate_left
        · simp only [Act.put, setIfInBounds_toArray, set_cons_zero, set_cons_succ, i64_w, i32_w]
          rfl
        refine pure_ (i := 3) (N := some 32) (v := ?_) (a' := ?_) #[false, false, true, true, false, false, false, false, false, false, false, false, false, false, false, false, false, false, false, false] rfl rfl (any_of HT_.out (by kernel_rfl)) (fun _ _ _ h => h) (Or.inl ⟨by rfl, ?_⟩) ?_ ?_
        rotate_left
        · intro w'
          go_simp
          with_reducible rfl
        rotate_left
        · simp only [Act.put, setIfInBounds_toArray, set_cons_zero, set_cons_succ, i64_w, i32_w]
          rfl
        refine pure_ (i := 7) (N := some 36) (v := ?_) (a' := ?_) #[false, false, true, true, false, false, false, true, false, false, false, false, false, false, false, false, false, false, false, false] rfl rfl (any_of HT_.out (by kernel_rfl)) (fun _ _ _ h => h) (Or.inl ⟨by rfl, ?_⟩) ?_ ?_
        rotate_left
        · intro w'
          go_simp
          with_reducible rfl
        rotate_left
        · simp only [Act.put, setIfInBounds_toArray, set_cons_zero, set_cons_succ, i64_w, i32_w]
          rfl
        refine pure_ (i := 8) (N := some 37) (v := ?_) (a' := ?_) #[false, false, true, true, false, false, false, true, true, false, false, false, false, false, false, false, false, false, false, false] rfl rfl (any_of HT_.out (by kernel_rfl)) (fun _ _ _ h => h) (Or.inl ⟨by rfl, ?_⟩) ?_ ?_
        rotate_left
        · intro w'
          go_simp
          with_reducible rfl
        rotate_left
        · simp only [Act.put, setIfInBounds_toArray, set_cons_zero, set_cons_succ, i64_w, i32_w]
          rfl
        refine take_ (i := 0) (N := some 29) (v := ?_) (a' := ?_) #[true, false, true, true, false, false, false, true, true, false, false, false, false, false, false, false, false, false, false, false] rfl rfl (take_ofW HT_.out HW_.out (by kernel_rfl)) (fun _ _ _ h => h) (Or.inl ⟨by rfl, ?_⟩) hHeld ?_ ?_
        rotate_left
        · rintro w' ⟨s0, s1, s2, s3, s4, s5, s6, s7, s8, s9, s10, s11⟩
          go_simp
          with_reducible rfl
        rotate_left
        · simp only [Act.put, setIfInBounds_toArray, set_cons_zero, set_cons_succ, i64_w, i32_w]
          rfl
        refine take_ (i := 1) (N := some 30) (v := ?_) (a' := ?_) #[true, true, true, true, false, false, false, true, true, false, false, false, false, false, false, false, false, false, false, false] rfl rfl (take_ofW HT_.out HW_.out (by kernel_rfl)) (fun _ _ _ h => h) (Or.inl ⟨by rfl, ?_⟩) hHeld ?_ ?_
        rotate_left
        · rintro w' ⟨s0, s1, s2, s3, s4, s5, s6, s7, s8, s9, s10, s11⟩
          go_simp
          with_reducible rfl
        rotate_left
        · simp only [Act.put, setIfInBounds_toArray, set_cons_zero, set_cons_succ, i64_w, i32_w]
          rfl
        refine take_ (i := 5) (N := some 34) (v := ?_) (a' := ?_) #[true, true, true, true, false, true, false, true, true, false, false, false, false, false, false, false, false, false, false, false] rfl rfl (take_ofW HT_.out HW_.out (by kernel_rfl)) (fun _ _ _ h => h) (Or.inl ⟨by rfl, ?_⟩) hHeld ?_ ?_
        rotate_left
        · rintro w' ⟨s0, s1, s2, s3, s4, s5, s6, s7, s8, s9, s10, s11⟩
          go_simp
          with_reducible rfl
        rotate_left
        · simp only [Act.put, setIfInBounds_toArray, set_cons_zero, set_cons_succ, i64_w, i32_w]
          rfl
        refine take_ (i := 6) (N := some 35) (v := ?_) (a' := ?_) #[true, true, true, true, false, true, true, true, true, false, false, false, false, false, false, false, false, false, false, false] rfl rfl (take_ofW HT_.out HW_.out (by kernel_rfl)) (fun _ _ _ h => h) (Or.inl ⟨by rfl, ?_⟩) hHeld ?_ ?_
        rotate_left
        · rintro w' ⟨s0, s1, s2, s3, s4, s5, s6, s7, s8, s9, s10, s11⟩
          go_simp
          with_reducible rfl
        rotate_left
        · simp only [Act.put, setIfInBounds_toArray, set_cons_zero, set_cons_succ, i64_w, i32_w]
          rfl
        refine one_ (i := 4) (N := some 33) #[true, true, true, true, true, true, true, true, true, false, false, false, false, false, false, false, false, false, false, false] rfl rfl (one_of HT_.out (by kernel_rfl)) (by decide) (fun K hK => ?_)
        refine goes_ Try.func17 (by kernel_rfl) rfl #[.agg #[.int .i64 t163, .int .i64 t164, .int .i64 t165, .int .i64 t166], .agg #[.int .i64 t158, .int .i64 t159, .int .i64 t160, .int .i64 t161], .int .i64 (wrap64 (5 + (Go.bits .and .i64 a2 1023)))] (by rfl) rfl rfl (by (try simp only [map_toArray, map_cons, map_nil]); first | done | rfl | (simp only [length_drop, length_take]; rfl)) ?_
        with_reducible refine (cell_Cell_Room.calls k t163 t164 t165 t166 t158 t159 t160 t161 (wrap64 (5 + (Go.bits .and .i64 a2 1023))) t173 _ A11.out).mono ?_
        rintro e w43 ⟨rfl, hb⟩
        refine ⟨_, rfl, ?_⟩
        have n0_ := Aside0.mk (blk_below (g := gb146) (by (with_reducible repeat (first | refine pN ?_ _ | refine pD ?_ | refine pA ?_ _)); exact BK146.out) hb)
        have n1_ := Aside0.mk (blk_below (g := gb157) (by (with_reducible repeat (first | refine pN ?_ _ | refine pD ?_ | refine pA ?_ _)); exact BK157.out) hb)
        have n2_ := Aside0.mk (blk_below (g := gb162) (by (with_reducible repeat (first | refine pN ?_ _ | refine pD ?_ | refine pA ?_ _)); exact BK162.out) hb)
        have n3_ := Aside0.mk (blk_below (g := gb171) (by (with_reducible repeat (first | refine pN ?_ _ | refine pD ?_ | refine pA ?_ _)); exact BK171.out) hb)
        have n4_ := Aside0.mk (blk_below (g := gb172) (by (with_reducible repeat (first | refine pN ?_ _ | refine pD ?_ | refine pA ?_ _)); exact BK172.out) hb)
        have n5_ := Aside0.mk (below_step (by repeat (first | (with_reducible first | exact HB.out | apply below_alloc | apply pw_below_drewN | apply below_drew1 | refine below_set ?_ GE146.out | refine below_set ?_ GE157.out | refine below_set ?_ GE162.out | refine below_set ?_ GE171.out | refine below_set ?_ GE172.out) | exact HB.out)) hb)
        clear BK146
        clear BK157
        clear BK162
        clear BK171
        clear BK172
        clear HB
        have BK146 := n0_
        have BK157 := n1_
        have BK162 := n2_
        have BK171 := n3_
        have BK172 := n4_
        have HB := n5_
        clear n0_ n1_ n2_ n3_ n4_ n5_
        (try clear hb)
        (try clear hb2)
        (try clear hk)
        (try clear hi)
        refine hK.out _ _ ⟨(blk_cell BK171.out 0).trans rfl, (blk_cell BK171.out 1).trans rfl, (blk_cell BK171.out 2).trans rfl, (blk_cell BK171.out 3).trans rfl, (blk_cell BK162.out 0).trans rfl, (blk_cell BK162.out 1).trans rfl, (blk_cell BK162.out 2).trans rfl, (blk_cell BK162.out 3).trans rfl, (blk_cell BK172.out 0).trans rfl, (blk_cell BK172.out 1).trans rfl, (blk_cell BK172.out 2).trans rfl, (blk_cell BK172.out 3).trans rfl⟩ (fun hHeld => ?_)
        clear hK K
        refine norm_ (a' := ?_) ?_ ?_
        rotate_left
        · show Act.put _ (some 33) _ = _
          simp only [Act.put, setIfInBounds_toArray, set_cons_zero, set_cons_succ, i64_w, i32_w]
          rfl
        refine one_ (i := 9) (N := some 38) #[true, true, true, true, true, true, true, true, true, true, false, false, false, false, false, false, false, false, false, false] rfl rfl (one_of HT_.out (by kernel_rfl)) (by decide) (fun K hK => ?_)
        refine goes_ Try.func17 (by kernel_rfl) rfl #[.agg #[.int .i64 t167, .int .i64 t168, .int .i64 t169, .int .i64 t170], .agg #[.int .i64 t158, .int .i64 t159, .int .i64 t160, .int .i64 t161], .int .i64 (wrap64 (5 + (Go.bits .and .i64 a2 1023)))] (by rfl) rfl rfl (by (try simp only [map_toArray, map_cons, map_nil]); first | done | rfl | (simp only [length_drop, length_take]; rfl)) ?_
        with_reducible refine (cell_Cell_Room.calls k t167 t168 t169 t170 t158 t159 t160 t161 (wrap64 (5 + (Go.bits .and .i64 a2 1023))) t174 _ A12.out).mono ?_
        rintro e w44 ⟨rfl, hb⟩
        refine ⟨_, rfl, ?_⟩
        have n0_ := Aside0.mk (blk_below (g := gb146) (by (with_reducible repeat (first | refine pN ?_ _ | refine pD ?_ | refine pA ?_ _)); exact BK146.out) hb)
        have n1_ := Aside0.mk (blk_below (g := gb157) (by (with_reducible repeat (first | refine pN ?_ _ | refine pD ?_ | refine pA ?_ _)); exact BK157.out) hb)
        have n2_ := Aside0.mk (blk_below (g := gb162) (by (with_reducible repeat (first | refine pN ?_ _ | refine pD ?_ | refine pA ?_ _)); exact BK162.out) hb)
        have n3_ := Aside0.mk (blk_below (g := gb171) (by (with_reducible repeat (first | refine pN ?_ _ | refine pD ?_ | refine pA ?_ _)); exact BK171.out) hb)
        have n4_ := Aside0.mk (blk_below (g := gb172) (by (with_reducible repeat (first | refine pN ?_ _ | refine pD ?_ | refine pA ?_ _)); exact BK172.out) hb)
        have n5_ := Aside0.mk (below_step (by repeat (first | (with_reducible first | exact HB.out | apply below_alloc | apply pw_below_drewN | apply below_drew1 | refine below_set ?_ GE146.out | refine below_set ?_ GE157.out | refine below_set ?_ GE162.out | refine below_set ?_ GE171.out | refine below_set ?_ GE172.out) | exact HB.out)) hb)
        clear BK146
        clear BK157
        clear BK162
        clear BK171
        clear BK172
        clear HB
        have BK146 := n0_
        have BK157 := n1_
        have BK162 := n2_
        have BK171 := n3_
        have BK172 := n4_
        have HB := n5_
        clear n0_ n1_ n2_ n3_ n4_ n5_
        (try clear hb)
        (try clear hb2)
        (try clear hk)
        (try clear hi)
        refine hK.out _ _ ⟨(blk_cell BK171.out 0).trans rfl, (blk_cell BK171.out 1).trans rfl, (blk_cell BK171.out 2).trans rfl, (blk_cell BK171.out 3).trans rfl, (blk_cell BK162.out 0).trans rfl, (blk_cell BK162.out 1).trans rfl, (blk_cell BK162.out 2).trans rfl, (blk_cell BK162.out 3).trans rfl, (blk_cell BK172.out 0).trans rfl, (blk_cell BK172.out 1).trans rfl, (blk_cell BK172.out 2).trans rfl, (blk_cell BK172.out 3).trans rfl⟩ (fun hHeld => ?_)
        clear hK K
        refine norm_ (a' := ?_) ?_ ?_
        rotate_left
        · show Act.put _ (some 38) _ = _
          simp only [Act.put, setIfInBounds_toArray, set_cons_zero, set_cons_succ, i64_w, i32_w]
          rfl
        refine pure_ (i := 10) (N := some 39) (v := ?_) (a' := ?_) #[true, true, true, true, true, true, true, true, true, true, true, false, false, false, false, false, false, false, false, false] rfl rfl (any_of HT_.out (by kernel_rfl)) (fun _ _ _ h => h) (Or.inl ⟨by rfl, ?_⟩) ?_ ?_
        rotate_left
        · intro w'
          go_simp
          with_reducible rfl
        rotate_left
        · simp only [Act.put, setIfInBounds_toArray, set_cons_zero, set_cons_succ, i64_w, i32_w]
          rfl
        refine pure_ (i := 11) (N := some 40) (v := ?_) (a' := ?_) #[true, true, true, true, true, true, true, true, true, true, true, true, false, false, false, false, false, false, false, false] rfl rfl (any_of HT_.out (by kernel_rfl)) (fun _ _ _ h => h) (Or.inl ⟨by rfl, ?_⟩) ?_ ?_
        rotate_left
        · intro w'
          go_simp
          with_reducible rfl
        rotate_left
        · simp only [Act.put, setIfInBounds_toArray, set_cons_zero, set_cons_succ, i64_w, i32_w]
          rfl
        refine pure_ (i := 14) (N := some 43) (v := ?_) (a' := ?_) #[true, true, true, true, true, true, true, true, true, true, true, true, false, false, true, false, false, false, false, false] rfl rfl (any_of HT_.out (by kernel_rfl)) (fun _ _ _ h => h) (Or.inl ⟨by rfl, ?_⟩) ?_ ?_
        rotate_left
        · intro w'
          go_simp
          with_reducible rfl
        rotate_left
        · simp only [Act.put, setIfInBounds_toArray, set_cons_zero, set_cons_succ, i64_w, i32_w]
          rfl
        refine pure_ (i := 15) (N := some 44) (v := ?_) (a' := ?_) #[true, true, true, true, true, true, true, true, true, true, true, true, false, false, true, true, false, false, false, false] rfl rfl (any_of HT_.out (by kernel_rfl)) (fun _ _ _ h => h) (Or.inl ⟨by rfl, ?_⟩) ?_ ?_
        rotate_left
        · intro w'
          go_simp
          with_reducible rfl
        rotate_left
        · simp only [Act.put, setIfInBounds_toArray, set_cons_zero, set_cons_succ, i64_w, i32_w]
          rfl
        refine take_ (i := 12) (N := some 41) (v := ?_) (a' := ?_) #[true, true, true, true, true, true, true, true, true, true, true, true, true, false, true, true, false, false, false, false] rfl rfl (take_ofW HT_.out HW_.out (by kernel_rfl)) (fun _ _ _ h => h) (Or.inl ⟨by rfl, ?_⟩) hHeld ?_ ?_
        rotate_left
        · rintro w' ⟨s0, s1, s2, s3, s4, s5, s6, s7, s8, s9, s10, s11⟩
          go_simp
          with_reducible rfl
        rotate_left
        · simp only [Act.put, setIfInBounds_toArray, set_cons_zero, set_cons_succ, i64_w, i32_w]
          rfl
        refine take_ (i := 13) (N := some 42) (v := ?_) (a' := ?_) #[true, true, true, true, true, true, true, true, true, true, true, true, true, true, true, true, false, false, false, false] rfl rfl (take_ofW HT_.out HW_.out (by kernel_rfl)) (fun _ _ _ h => h) (Or.inl ⟨by rfl, ?_⟩) hHeld ?_ ?_
        rotate_left
        · rintro w' ⟨s0, s1, s2, s3, s4, s5, s6, s7, s8, s9, s10, s11⟩
          go_simp
          with_reducible rfl
        rotate_left
        · simp only [Act.put, setIfInBounds_toArray, set_cons_zero, set_cons_succ, i64_w, i32_w]
          rfl
        refine one_ (i := 16) (N := some 45) #[true, true, true, true, true, true, true, true, true, true, true, true, true, true, true, true, true, false, false, false] rfl rfl (one_of HT_.out (by kernel_rfl)) (by decide) (fun K hK => ?_)
        refine goes_ Try.func19 (by kernel_rfl) rfl #[.agg #[.int .i64 t163, .int .i64 t164, .int .i64 t165, .int .i64 t166], .agg #[.int .i64 t158, .int .i64 t159, .int .i64 t160, .int .i64 t161], .int .i64 (wrap64 (5 + (Go.bits .and .i64 a2 1023))), .int .i64 1] (by rfl) rfl rfl (by (try simp only [map_toArray, map_cons, map_nil]); first | done | rfl | (simp only [length_drop, length_take]; rfl)) ?_
        with_reducible refine (cell_Cell_Wait.calls t163 t164 t165 t166 t158 t159 t160 t161 (wrap64 (5 + (Go.bits .and .i64 a2 1023))) 1 t175 _ A14.out).mono ?_
        rintro e w45 ⟨rfl, hb⟩
        refine ⟨_, rfl, ?_⟩
        have n0_ := Aside0.mk (blk_below (g := gb146) (by (with_reducible repeat (first | refine pN ?_ _ | refine pD ?_ | refine pA ?_ _)); exact BK146.out) hb)
        have n1_ := Aside0.mk (blk_below (g := gb157) (by (with_reducible repeat (first | refine pN ?_ _ | refine pD ?_ | refine pA ?_ _)); exact BK157.out) hb)
        have n2_ := Aside0.mk (blk_below (g := gb162) (by (with_reducible repeat (first | refine pN ?_ _ | refine pD ?_ | refine pA ?_ _)); exact BK162.out) hb)
        have n3_ := Aside0.mk (blk_below (g := gb171) (by (with_reducible repeat (first | refine pN ?_ _ | refine pD ?_ | refine pA ?_ _)); exact BK171.out) hb)
        have n4_ := Aside0.mk (blk_below (g := gb172) (by (with_reducible repeat (first | refine pN ?_ _ | refine pD ?_ | refine pA ?_ _)); exact BK172.out) hb)
        have n5_ := Aside0.mk (below_step (by repeat (first | (with_reducible first | exact HB.out | apply below_alloc | apply pw_below_drewN | apply below_drew1 | refine below_set ?_ GE146.out | refine below_set ?_ GE157.out | refine below_set ?_ GE162.out | refine below_set ?_ GE171.out | refine below_set ?_ GE172.out) | exact HB.out)) hb)
        clear BK146
        clear BK157
        clear BK162
        clear BK171
        clear BK172
        clear HB
        have BK146 := n0_
        have BK157 := n1_
        have BK162 := n2_
        have BK171 := n3_
        have BK172 := n4_
        have HB := n5_
        clear n0_ n1_ n2_ n3_ n4_ n5_
        (try clear hb)
        (try clear hb2)
        (try clear hk)
        (try clear hi)
        refine hK.out _ _ ⟨(blk_cell BK171.out 0).trans rfl, (blk_cell BK171.out 1).trans rfl, (blk_cell BK171.out 2).trans rfl, (blk_cell BK171.out 3).trans rfl, (blk_cell BK162.out 0).trans rfl, (blk_cell BK162.out 1).trans rfl, (blk_cell BK162.out 2).trans rfl, (blk_cell BK162.out 3).trans rfl, (blk_cell BK172.out 0).trans rfl, (blk_cell BK172.out 1).trans rfl, (blk_cell BK172.out 2).trans rfl, (blk_cell BK172.out 3).trans rfl⟩ (fun hHeld => ?_)
        clear hK K
        refine norm_ (a' := ?_) ?_ ?_
        rotate_left
        · show Act.put _ (some 45) _ = _
          simp only [Act.put, setIfInBounds_toArray, set_cons_zero, set_cons_succ, i64_w, i32_w]
          rfl
        refine pure_ (i := 17) (N := some 46) (v := ?_) (a' := ?_) #[true, true, true, true, true, true, true, true, true, true, true, true, true, true, true, true, true, true, false, false] rfl rfl (any_of HT_.out (by kernel_rfl)) (fun _ _ _ h => h) (Or.inl ⟨by rfl, ?_⟩) ?_ ?_
        rotate_left
        · intro w'
          go_simp
          with_reducible rfl
        rotate_left
        · simp only [Act.put, setIfInBounds_toArray, set_cons_zero, set_cons_succ, i64_w, i32_w]
          rfl
        refine pure_ (i := 18) (N := some 47) (v := ?_) (a' := ?_) #[true, true, true, true, true, true, true, true, true, true, true, true, true, true, true, true, true, true, true, false] rfl rfl (any_of HT_.out (by kernel_rfl)) (fun _ _ _ h => h) (Or.inl ⟨by rfl, ?_⟩) ?_ ?_
        rotate_left
        · intro w'
          go_simp
          with_reducible rfl
        rotate_left
        · simp only [Act.put, setIfInBounds_toArray, set_cons_zero, set_cons_succ, i64_w, i32_w]
          rfl
        refine pure_ (i := 19) (N := some 6) (v := ?_) (a' := ?_) #[true, true, true, true, true, true, true, true, true, true, true, true, true, true, true, true, true, true, true, true] rfl rfl (any_of HT_.out (by kernel_rfl)) (fun _ _ _ h => h) (Or.inl ⟨by rfl, ?_⟩) ?_ ?_
        rotate_left
        · intro w'
          go_simp
          with_reducible rfl
        rotate_left
        · simp only [Act.put, setIfInBounds_toArray, set_cons_zero, set_cons_succ, i64_w, i32_w]
          rfl
        refine done_ (done_of HT_.out (by kernel_rfl)) ?_
        try go_wp2
        go_ret
        exact ⟨by first | rfl | (simp [errW_none, errW_some] <;> rfl) | (simp [*, errW_none, errW_some] <;> rfl), by repeat (first | (with_reducible first | exact HB.out | apply below_alloc | apply pw_below_drewN | apply below_drew1 | refine below_set ?_ GE146.out | refine below_set ?_ GE157.out | refine below_set ?_ GE162.out | refine below_set ?_ GE171.out | refine below_set ?_ GE172.out) | exact HB.out)⟩
      · rw [if_neg c13] at H
        have c13b0 : (t173 == t174) = false := beq_eq_false_iff_ne.mpr c13
        have c13b1 : (t173 != t174) = true := bne_iff_ne.mpr c13
        exact absurd (Option.some.inj H) (by rw [hr_.out]; decide)
    · rw [if_neg c10] at H
      have c10b0 : decide (t149 ≤ (Go.bits .and .i64 a2 1023)) = false := decide_eq_false c10
      clear c10
      obtain ⟨ji46, hji46⟩ : ∃ j_ : Int, (mx (wrap64 (t148 - (Go.bits .and .i64 a1 63))) 0) = j_ := ⟨_, rfl⟩
      replace H : ((cell_Cell_Room.f k t163 t164 t165 t166 t158 t159 t160 t161 (wrap64 (5 + (Go.bits .and .i64 a2 1023)))).bind fun t176 => (if t176 = (mn (ji46) t150) then (if (ji46) ≥ 1 then ((cell_Cell_Wait.f t163 t164 t165 t166 t158 t159 t160 t161 (wrap64 (5 + (Go.bits .and .i64 a2 1023))) 1).bind fun t177 => (if t177 = 0 then (some true) else (if (ji46) = 0 then ((cell_Cell_Wait.f t163 t164 t165 t166 t158 t159 t160 t161 (wrap64 (5 + (Go.bits .and .i64 a2 1023))) 1).bind fun t178 => (some (t178 == (wrap64 (t149 - (Go.bits .and .i64 a2 1023)))))) else (some false)))) else (if (ji46) = 0 then ((cell_Cell_Wait.f t163 t164 t165 t166 t158 t159 t160 t161 (wrap64 (5 + (Go.bits .and .i64 a2 1023))) 1).bind fun t179 => (some (t179 == (wrap64 (t149 - (Go.bits .and .i64 a2 1023)))))) else (some false))) else (some false))) = some r := by first | (rw [hji46] at H; exact H) | (simp only [hji46] at H ⊢; exact H)
      (try rw [hji46] at A4)
      (try rw [hji46] at A6)
      (try rw [hji46] at A7)
      (try rw [hji46] at A8)
      (try rw [hji46] at A9)
      (try (have hji46l : 0 ≤ ji46 := by (rw [← hji46]; unfold mx; (repeat' split) <;> omega)))
      (try (have hji46m : 0 ≤ ji46 := by omega))
      have hji46_ : (if (wrap64 (t148 - (Go.bits .and .i64 a1 63))) < 0 then 0 else (wrap64 (t148 - (Go.bits .and .i64 a1 63)))) = ji46 := hji46
      replace H := Option.bind_eq_some_iff.mp H
      obtain ⟨t176, A470, H⟩ := H
      replace H : (if t176 = (mn (ji46) t150) then (if (ji46) ≥ 1 then ((cell_Cell_Wait.f t163 t164 t165 t166 t158 t159 t160 t161 (wrap64 (5 + (Go.bits .and .i64 a2 1023))) 1).bind fun t177 => (if t177 = 0 then (some true) else (if (ji46) = 0 then ((cell_Cell_Wait.f t163 t164 t165 t166 t158 t159 t160 t161 (wrap64 (5 + (Go.bits .and .i64 a2 1023))) 1).bind fun t178 => (some (t178 == (wrap64 (t149 - (Go.bits .and .i64 a2 1023)))))) else (some false)))) else (if (ji46) = 0 then ((cell_Cell_Wait.f t163 t164 t165 t166 t158 t159 t160 t161 (wrap64 (5 + (Go.bits .and .i64 a2 1023))) 1).bind fun t179 => (some (t179 == (wrap64 (t149 - (Go.bits .and .i64 a2 1023)))))) else (some false))) else (some false)) = some r := H
      have A47 := Aside0.mk A470
      clear A470
      obtain ⟨ji48, hji48⟩ : ∃ j_ : Int, (mn (ji46) t150) = j_ := ⟨_, rfl⟩
      replace H : (if t176 = (ji48) then (if (ji46) ≥ 1 then ((cell_Cell_Wait.f t163 t164 t165 t166 t158 t159 t160 t161 (wrap64 (5 + (Go.bits .and .i64 a2 1023))) 1).bind fun t177 => (if t177 = 0 then (some true) else (if (ji46) = 0 then ((cell_Cell_Wait.f t163 t164 t165 t166 t158 t159 t160 t161 (wrap64 (5 + (Go.bits .and .i64 a2 1023))) 1).bind fun t178 => (some (t178 == (wrap64 (t149 - (Go.bits .and .i64 a2 1023)))))) else (some false)))) else (if (ji46) = 0 then ((cell_Cell_Wait.f t163 t164 t165 t166 t158 t159 t160 t161 (wrap64 (5 + (Go.bits .and .i64 a2 1023))) 1).bind fun t179 => (some (t179 == (wrap64 (t149 - (Go.bits .and .i64 a2 1023)))))) else (some false))) else (some false)) = some r := by first | (rw [hji48] at H; exact H) | (simp only [hji48] at H ⊢; exact H)
      (try rw [hji48] at A4)
      (try rw [hji48] at A6)
      (try rw [hji48] at A7)
      (try rw [hji48] at A8)
      (try rw [hji48] at A9)
      (try rw [hji48] at A47)
      have hji48_ : (if t150 < (ji46) then t150 else (ji46)) = ji48 := hji48
      by_cases c49 : t176 = (ji48)
      · rw [if_pos c49] at H
        have c49b0 : (t176 == (ji48)) = true := beq_iff_eq.mpr c49
        have c49b1 : (t176 != (ji48)) = false := bne_eq_false_iff_eq.mpr c49
        clear c49
        by_cases c50 : (ji46) ≥ 1
        · rw [if_pos c50] at H
          have c50b0 : decide (1 ≤ (ji46)) = true := decide_eq_true c50
          clear c50
          replace H := Option.bind_eq_some_iff.mp H
          obtain ⟨t177, A510, H⟩ := H
          replace H : (if t177 = 0 then (some true) else (if (ji46) = 0 then ((cell_Cell_Wait.f t163 t164 t165 t166 t158 t159 t160 t161 (wrap64 (5 + (Go.bits .and .i64 a2 1023))) 1).bind fun t178 => (some (t178 == (wrap64 (t149 - (Go.bits .and .i64 a2 1023)))))) else (some false))) = some r := H
          have A51 := Aside0.mk A510
          clear A510
          by_cases c52 : t177 = 0
          · rw [if_pos c52] at H
            have c52b0 : (t177 == 0) = true := beq_iff_eq.mpr c52
            have c52b1 : (t177 != 0) = false := bne_eq_false_iff_eq.mpr c52
            clear c52
            obtain rfl := Option.some.inj H
            go_enter Try.func7, Try.ntmps7
            try go_wp2_with (first | ((with_reducible refine gate_dst (N := 3) rfl ?_); refine box_event ?hg (N := 3) ?hd (cs := #[.int .i64 a0_0, .int .i64 a0_1, .int .i64 a0_2]) (t := 23) ?hr ?_; (case hd => rfl); (case hg => rfl); (case hr => first | (go_simp; done) | (go_simp; rfl)); intro gb146 hg w53 hbox hb; have n0_ := Aside0.mk (below_step (by repeat (first | (with_reducible first | exact HB.out | apply below_alloc | apply pw_below_drewN | apply below_drew1) | exact HB.out)) hb); have n1_ := Aside0.mk (hbox); have n2_ := Aside0.mk ((by rw [hg]; exact (below_size (by repeat (first | (with_reducible first | exact HB.out | apply below_alloc | apply pw_below_drewN | apply below_drew1) | exact HB.out))) : w.heap.size ≤ gb146)); have n3_ := n2_; clear HB; have HB := n0_; have BK146 := n1_; have GW146 := n2_; have GE146 := n3_; clear n0_ n1_ n2_ n3_; clear hb hbox hg) | ((with_reducible refine gate_callee (f := 11) rfl ?_); refine goesL_ (some 12) rfl rfl Try.func11 (by kernel_rfl) rfl #[] rfl (by (try simp only [map_toArray, map_cons, map_nil]); first | done | rfl | (simp only [length_drop, length_take]; rfl)) ?_; (with_reducible refine (weighbridgelaw09_fit.calls k  true _ A4.out).mono ?_); rintro e w54 ⟨rfl, hb⟩; refine ⟨_, rfl, ?_⟩; have n0_ := Aside0.mk (blk_below (g := gb146) (by (with_reducible repeat (first | refine pN ?_ _ | refine pD ?_ | refine pA ?_ _)); exact BK146.out) hb); have n1_ := Aside0.mk (below_step (by repeat (first | (with_reducible first | exact HB.out | apply below_alloc | apply pw_below_drewN | apply below_drew1 | refine below_set ?_ GE146.out) | exact HB.out)) hb); clear BK146; clear HB; have BK146 := n0_; have HB := n1_; clear n0_ n1_; (try clear hb); (try clear hb2); (try clear hk); (try clear hi); have hcz55_0 : w54.cell? ⟨gb146, 0, none⟩ = some (.int .i64 a0_0) := (blk_cell BK146.out 0).trans rfl; have hcz55_1 : w54.cell? ⟨gb146, 1, none⟩ = some (.int .i64 a0_1) := (blk_cell BK146.out 1).trans rfl; have hcz55_2 : w54.cell? ⟨gb146, 2, none⟩ = some (.int .i64 a0_2) := (blk_cell BK146.out 2).trans rfl; have hfz55_0 := blk_frozen BK146.out 0; have hfz55_1 := blk_frozen BK146.out 1; have hfz55_2 := blk_frozen BK146.out 2) | ((with_reducible refine gate_callee (f := 12) rfl ?_); refine goesL_ (some 15) rfl rfl Try.func12 (by kernel_rfl) rfl #[.agg #[.int .i64 a0_0, .int .i64 a0_1, .int .i64 a0_2]] rfl (by (try simp only [map_toArray, map_cons, map_nil]); first | done | rfl | (simp only [length_drop, length_take]; rfl)) ?_; (with_reducible refine (weighbridgelaw09_Plan_Rule.calls a0_0 a0_1 a0_2 t148 t149 t150 t151 t152 t153 t154 t155 t156 _ A6.out).mono ?_); rintro e w56 ⟨rfl, hb⟩; refine ⟨_, rfl, ?_⟩; have n0_ := Aside0.mk (blk_below (g := gb146) (by (with_reducible repeat (first | refine pN ?_ _ | refine pD ?_ | refine pA ?_ _)); exact BK146.out) hb); have n1_ := Aside0.mk (below_step (by repeat (first | (with_reducible first | exact HB.out | apply below_alloc | apply pw_below_drewN | apply below_drew1 | refine below_set ?_ GE146.out) | exact HB.out)) hb); clear BK146; clear HB; have BK146 := n0_; have HB := n1_; clear n0_ n1_; (try clear hb); (try clear hb2); (try clear hk); (try clear hi)) | ((with_reducible refine gate_dst (N := 7) rfl ?_); refine box_event ?hg (N := 7) ?hd (cs := #[.int .i64 0, .int .i64 0, .int .i64 0, .int .i64 0, .int .i64 0, .int .i64 0, .int .i64 0, .int .i64 0, .bool false]) (t := 28) ?hr ?_; (case hd => rfl); (case hg => rfl); (case hr => first | (go_simp; done) | (go_simp; rfl)); intro gb157 hg w57 hbox hb; have n0_ := Aside0.mk (blk_below (g := gb146) (by (with_reducible repeat (first | refine pN ?_ _ | refine pD ?_ | refine pA ?_ _)); exact BK146.out) hb); have n1_ := Aside0.mk (below_step (by repeat (first | (with_reducible first | exact HB.out | apply below_alloc | apply pw_below_drewN | apply below_drew1 | refine below_set ?_ GE146.out) | exact HB.out)) hb); have n2_ := Aside0.mk (hbox); have n3_ := Aside0.mk ((by rw [hg]; exact (below_size (by repeat (first | (with_reducible first | exact HB.out | apply below_alloc | apply pw_below_drewN | apply below_drew1 | refine below_set ?_ GE146.out) | exact HB.out))) : w.heap.size ≤ gb157)); have n4_ := n3_; have n5_ := Aside0.mk ((by rw [hg]; exact Nat.ne_of_lt (blk_lt (g := gb146) (by (with_reducible repeat (first | refine pN ?_ _ | refine pD ?_ | refine pA ?_ _)); exact BK146.out)) : gb146 ≠ gb157)); have n6_ := Aside0.mk n5_.out.symm; clear BK146; clear HB; have BK146 := n0_; have HB := n1_; have BK157 := n2_; have GW157 := n3_; have GE157 := n4_; have NB146_157 := n5_; have NB157_146 := n6_; clear n0_ n1_ n2_ n3_ n4_ n5_ n6_; clear hb hbox hg; have hnb58 := NB157_146.out; have hnc58 := NB146_157.out; have hcz59_0 : w57.cell? ⟨gb157, 0, none⟩ = some (.int .i64 0) := (blk_cell BK157.out 0).trans rfl; have hcz59_1 : w57.cell? ⟨gb157, 1, none⟩ = some (.int .i64 0) := (blk_cell BK157.out 1).trans rfl; have hcz59_2 : w57.cell? ⟨gb157, 2, none⟩ = some (.int .i64 0) := (blk_cell BK157.out 2).trans rfl; have hcz59_3 : w57.cell? ⟨gb157, 3, none⟩ = some (.int .i64 0) := (blk_cell BK157.out 3).trans rfl; have hcz59_4 : w57.cell? ⟨gb157, 4, none⟩ = some (.int .i64 0) := (blk_cell BK157.out 4).trans rfl; have hcz59_5 : w57.cell? ⟨gb157, 5, none⟩ = some (.int .i64 0) := (blk_cell BK157.out 5).trans rfl; have hcz59_6 : w57.cell? ⟨gb157, 6, none⟩ = some (.int .i64 0) := (blk_cell BK157.out 6).trans rfl; have hcz59_7 : w57.cell? ⟨gb157, 7, none⟩ = some (.int .i64 0) := (blk_cell BK157.out 7).trans rfl; have hcz59_8 : w57.cell? ⟨gb157, 8, none⟩ = some (.bool false) := (blk_cell BK157.out 8).trans rfl; have hfz59_0 := blk_frozen BK157.out 0; have hfz59_1 := blk_frozen BK157.out 1; have hfz59_2 := blk_frozen BK157.out 2; have hfz59_3 := blk_frozen BK157.out 3; have hfz59_4 := blk_frozen BK157.out 4; have hfz59_5 := blk_frozen BK157.out 5; have hfz59_6 := blk_frozen BK157.out 6; have hfz59_7 := blk_frozen BK157.out 7; have hfz59_8 := blk_frozen BK157.out 8) | ((with_reducible refine gate_callee (f := 13) rfl ?_); refine goesL_ (some 17) rfl rfl Try.func13 (by kernel_rfl) rfl #[.agg #[.int .i64 t148, .int .i64 t149, .int .i64 t150, .int .i64 t151, .int .i64 t152, .int .i64 t153, .int .i64 t154, .int .i64 t155, .bool t156]] rfl (by (try simp only [map_toArray, map_cons, map_nil]); first | done | rfl | (simp only [length_drop, length_take]; rfl)) ?_; (with_reducible refine (cell_Of.calls k t148 t149 t150 t151 t152 t153 t154 t155 t156 t158 t159 t160 t161 _ A7.out).mono ?_); rintro e w60 ⟨rfl, hb⟩; refine ⟨_, rfl, ?_⟩; have n0_ := Aside0.mk (blk_below (g := gb146) (o := .cells #[.int .i64 a0_0, .int .i64 a0_1, .int .i64 a0_2] 23 (0, 0)) (by (with_reducible repeat (first | refine pN ?_ _ | refine pD ?_ | refine pA ?_ _)); refine blk_far ?_ NB146_157.out _; (with_reducible repeat (first | refine pN ?_ _ | refine pD ?_ | refine pA ?_ _)); refine blk_far ?_ NB146_157.out _; (with_reducible repeat (first | refine pN ?_ _ | refine pD ?_ | refine pA ?_ _)); refine blk_far ?_ NB146_157.out _; (with_reducible repeat (first | refine pN ?_ _ | refine pD ?_ | refine pA ?_ _)); refine blk_far ?_ NB146_157.out _; (with_reducible repeat (first | refine pN ?_ _ | refine pD ?_ | refine pA ?_ _)); refine blk_far ?_ NB146_157.out _; (with_reducible repeat (first | refine pN ?_ _ | refine pD ?_ | refine pA ?_ _)); refine blk_far ?_ NB146_157.out _; (with_reducible repeat (first | refine pN ?_ _ | refine pD ?_ | refine pA ?_ _)); refine blk_far ?_ NB146_157.out _; (with_reducible repeat (first | refine pN ?_ _ | refine pD ?_ | refine pA ?_ _)); refine blk_far ?_ NB146_157.out _; (with_reducible repeat (first | refine pN ?_ _ | refine pD ?_ | refine pA ?_ _)); refine blk_far ?_ NB146_157.out _; (with_reducible repeat (first | refine pN ?_ _ | refine pD ?_ | refine pA ?_ _)); exact BK146.out) hb); have n1_ := Aside0.mk (blk_below (g := gb157) (o := .cells #[.int .i64 t148, .int .i64 t149, .int .i64 t150, .int .i64 t151, .int .i64 t152, .int .i64 t153, .int .i64 t154, .int .i64 t155, .bool t156] 28 (0, 0)) (by (with_reducible repeat (first | refine pN ?_ _ | refine pD ?_ | refine pA ?_ _)); refine blk_put (cs := #[.int .i64 t148, .int .i64 t149, .int .i64 t150, .int .i64 t151, .int .i64 t152, .int .i64 t153, .int .i64 t154, .int .i64 t155, .bool false]) ?_ 8 _ rfl; (with_reducible repeat (first | refine pN ?_ _ | refine pD ?_ | refine pA ?_ _)); refine blk_put (cs := #[.int .i64 t148, .int .i64 t149, .int .i64 t150, .int .i64 t151, .int .i64 t152, .int .i64 t153, .int .i64 t154, .int .i64 0, .bool false]) ?_ 7 _ rfl; (with_reducible repeat (first | refine pN ?_ _ | refine pD ?_ | refine pA ?_ _)); refine blk_put (cs := #[.int .i64 t148, .int .i64 t149, .int .i64 t150, .int .i64 t151, .int .i64 t152, .int .i64 t153, .int .i64 0, .int .i64 0, .bool false]) ?_ 6 _ rfl; (with_reducible repeat (first | refine pN ?_ _ | refine pD ?_ | refine pA ?_ _)); refine blk_put (cs := #[.int .i64 t148, .int .i64 t149, .int .i64 t150, .int .i64 t151, .int .i64 t152, .int .i64 0, .int .i64 0, .int .i64 0, .bool false]) ?_ 5 _ rfl; (with_reducible repeat (first | refine pN ?_ _ | refine pD ?_ | refine pA ?_ _)); refine blk_put (cs := #[.int .i64 t148, .int .i64 t149, .int .i64 t150, .int .i64 t151, .int .i64 0, .int .i64 0, .int .i64 0, .int .i64 0, .bool false]) ?_ 4 _ rfl; (with_reducible repeat (first | refine pN ?_ _ | refine pD ?_ | refine pA ?_ _)); refine blk_put (cs := #[.int .i64 t148, .int .i64 t149, .int .i64 t150, .int .i64 0, .int .i64 0, .int .i64 0, .int .i64 0, .int .i64 0, .bool false]) ?_ 3 _ rfl; (with_reducible repeat (first | refine pN ?_ _ | refine pD ?_ | refine pA ?_ _)); refine blk_put (cs := #[.int .i64 t148, .int .i64 t149, .int .i64 0, .int .i64 0, .int .i64 0, .int .i64 0, .int .i64 0, .int .i64 0, .bool false]) ?_ 2 _ rfl; (with_reducible repeat (first | refine pN ?_ _ | refine pD ?_ | refine pA ?_ _)); refine blk_put (cs := #[.int .i64 t148, .int .i64 0, .int .i64 0, .int .i64 0, .int .i64 0, .int .i64 0, .int .i64 0, .int .i64 0, .bool false]) ?_ 1 _ rfl; (with_reducible repeat (first | refine pN ?_ _ | refine pD ?_ | refine pA ?_ _)); refine blk_put (cs := #[.int .i64 0, .int .i64 0, .int .i64 0, .int .i64 0, .int .i64 0, .int .i64 0, .int .i64 0, .int .i64 0, .bool false]) ?_ 0 _ rfl; (with_reducible repeat (first | refine pN ?_ _ | refine pD ?_ | refine pA ?_ _)); exact BK157.out) hb); have n2_ := Aside0.mk (below_step (by repeat (first | (with_reducible first | exact HB.out | apply below_alloc | apply pw_below_drewN | apply below_drew1 | refine below_set ?_ GE146.out | refine below_set ?_ GE157.out) | exact HB.out)) hb); clear BK146; clear BK157; clear HB; have BK146 := n0_; have BK157 := n1_; have HB := n2_; clear n0_ n1_ n2_; (try clear hb); (try clear hb2); (try clear hk); (try clear hi)) | ((with_reducible refine gate_dst (N := 8) rfl ?_); refine box_event ?hg (N := 8) ?hd (cs := #[.int .i64 0, .int .i64 0, .int .i64 0, .int .i64 0]) (t := 31) ?hr ?_; (case hd => rfl); (case hg => rfl); (case hr => first | (go_simp; done) | (go_simp; rfl)); intro gb162 hg w61 hbox hb; have n0_ := Aside0.mk (blk_below (g := gb146) (by (with_reducible repeat (first | refine pN ?_ _ | refine pD ?_ | refine pA ?_ _)); exact BK146.out) hb); have n1_ := Aside0.mk (blk_below (g := gb157) (by (with_reducible repeat (first | refine pN ?_ _ | refine pD ?_ | refine pA ?_ _)); exact BK157.out) hb); have n2_ := Aside0.mk (below_step (by repeat (first | (with_reducible first | exact HB.out | apply below_alloc | apply pw_below_drewN | apply below_drew1 | refine below_set ?_ GE146.out | refine below_set ?_ GE157.out) | exact HB.out)) hb); have n3_ := Aside0.mk (hbox); have n4_ := Aside0.mk ((by rw [hg]; exact (below_size (by repeat (first | (with_reducible first | exact HB.out | apply below_alloc | apply pw_below_drewN | apply below_drew1 | refine below_set ?_ GE146.out | refine below_set ?_ GE157.out) | exact HB.out))) : w.heap.size ≤ gb162)); have n5_ := n4_; have n6_ := Aside0.mk ((by rw [hg]; exact Nat.ne_of_lt (blk_lt (g := gb146) (by (with_reducible repeat (first | refine pN ?_ _ | refine pD ?_ | refine pA ?_ _)); exact BK146.out)) : gb146 ≠ gb162)); have n7_ := Aside0.mk n6_.out.symm; have n8_ := Aside0.mk ((by rw [hg]; exact Nat.ne_of_lt (blk_lt (g := gb157) (by (with_reducible repeat (first | refine pN ?_ _ | refine pD ?_ | refine pA ?_ _)); exact BK157.out)) : gb157 ≠ gb162)); have n9_ := Aside0.mk n8_.out.symm; clear BK146; clear BK157; clear HB; have BK146 := n0_; have BK157 := n1_; have HB := n2_; have BK162 := n3_; have GW162 := n4_; have GE162 := n5_; have NB146_162 := n6_; have NB162_146 := n7_; have NB157_162 := n8_; have NB162_157 := n9_; clear n0_ n1_ n2_ n3_ n4_ n5_ n6_ n7_ n8_ n9_; clear hb hbox hg; have hnb62 := NB162_146.out; have hnc62 := NB146_162.out; have hnb63 := NB162_157.out; have hnc63 := NB157_162.out; have hcz64_0 : w61.cell? ⟨gb162, 0, none⟩ = some (.int .i64 0) := (blk_cell BK162.out 0).trans rfl; have hcz64_1 : w61.cell? ⟨gb162, 1, none⟩ = some (.int .i64 0) := (blk_cell BK162.out 1).trans rfl; have hcz64_2 : w61.cell? ⟨gb162, 2, none⟩ = some (.int .i64 0) := (blk_cell BK162.out 2).trans rfl; have hcz64_3 : w61.cell? ⟨gb162, 3, none⟩ = some (.int .i64 0) := (blk_cell BK162.out 3).trans rfl; have hfz64_0 := blk_frozen BK162.out 0; have hfz64_1 := blk_frozen BK162.out 1; have hfz64_2 := blk_frozen BK162.out 2; have hfz64_3 := blk_frozen BK162.out 3) | ((with_reducible refine gate_callee (f := 15) rfl ?_); refine goesL_ (some 23) rfl rfl Try.func15 (by kernel_rfl) rfl #[.int .i64 5, .int .i64 (Go.bits .and .i64 a1 63)] rfl (by (try simp only [map_toArray, map_cons, map_nil]); first | done | rfl | (simp only [length_drop, length_take]; rfl)) ?_; (with_reducible refine (cell_New.calls 5 (Go.bits .and .i64 a1 63) t163 t164 t165 t166 _ A8.out).mono ?_); rintro e w65 ⟨rfl, hb⟩; refine ⟨_, rfl, ?_⟩; have n0_ := Aside0.mk (blk_below (g := gb146) (o := .cells #[.int .i64 a0_0, .int .i64 a0_1, .int .i64 a0_2] 23 (0, 0)) (by (with_reducible repeat (first | refine pN ?_ _ | refine pD ?_ | refine pA ?_ _)); refine blk_far ?_ NB146_162.out _; (with_reducible repeat (first | refine pN ?_ _ | refine pD ?_ | refine pA ?_ _)); refine blk_far ?_ NB146_162.out _; (with_reducible repeat (first | refine pN ?_ _ | refine pD ?_ | refine pA ?_ _)); refine blk_far ?_ NB146_162.out _; (with_reducible repeat (first | refine pN ?_ _ | refine pD ?_ | refine pA ?_ _)); refine blk_far ?_ NB146_162.out _; (with_reducible repeat (first | refine pN ?_ _ | refine pD ?_ | refine pA ?_ _)); exact BK146.out) hb); have n1_ := Aside0.mk (blk_below (g := gb157) (o := .cells #[.int .i64 t148, .int .i64 t149, .int .i64 t150, .int .i64 t151, .int .i64 t152, .int .i64 t153, .int .i64 t154, .int .i64 t155, .bool t156] 28 (0, 0)) (by (with_reducible repeat (first | refine pN ?_ _ | refine pD ?_ | refine pA ?_ _)); refine blk_far ?_ NB157_162.out _; (with_reducible repeat (first | refine pN ?_ _ | refine pD ?_ | refine pA ?_ _)); refine blk_far ?_ NB157_162.out _; (with_reducible repeat (first | refine pN ?_ _ | refine pD ?_ | refine pA ?_ _)); refine blk_far ?_ NB157_162.out _; (with_reducible repeat (first | refine pN ?_ _ | refine pD ?_ | refine pA ?_ _)); refine blk_far ?_ NB157_162.out _; (with_reducible repeat (first | refine pN ?_ _ | refine pD ?_ | refine pA ?_ _)); exact BK157.out) hb); have n2_ := Aside0.mk (blk_below (g := gb162) (o := .cells #[.int .i64 t158, .int .i64 t159, .int .i64 t160, .int .i64 t161] 31 (0, 0)) (by (with_reducible repeat (first | refine pN ?_ _ | refine pD ?_ | refine pA ?_ _)); refine blk_put (cs := #[.int .i64 t158, .int .i64 t159, .int .i64 t160, .int .i64 0]) ?_ 3 _ rfl; (with_reducible repeat (first | refine pN ?_ _ | refine pD ?_ | refine pA ?_ _)); refine blk_put (cs := #[.int .i64 t158, .int .i64 t159, .int .i64 0, .int .i64 0]) ?_ 2 _ rfl; (with_reducible repeat (first | refine pN ?_ _ | refine pD ?_ | refine pA ?_ _)); refine blk_put (cs := #[.int .i64 t158, .int .i64 0, .int .i64 0, .int .i64 0]) ?_ 1 _ rfl; (with_reducible repeat (first | refine pN ?_ _ | refine pD ?_ | refine pA ?_ _)); refine blk_put (cs := #[.int .i64 0, .int .i64 0, .int .i64 0, .int .i64 0]) ?_ 0 _ rfl; (with_reducible repeat (first | refine pN ?_ _ | refine pD ?_ | refine pA ?_ _)); exact BK162.out) hb); have n3_ := Aside0.mk (below_step (by repeat (first | (with_reducible first | exact HB.out | apply below_alloc | apply pw_below_drewN | apply below_drew1 | refine below_set ?_ GE146.out | refine below_set ?_ GE157.out | refine below_set ?_ GE162.out) | exact HB.out)) hb); clear BK146; clear BK157; clear BK162; clear HB; have BK146 := n0_; have BK157 := n1_; have BK162 := n2_; have HB := n3_; clear n0_ n1_ n2_ n3_; (try clear hb); (try clear hb2); (try clear hk); (try clear hi)) | ((with_reducible refine gate_callee (f := 15) rfl ?_); refine goesL_ (some 24) rfl rfl Try.func15 (by kernel_rfl) rfl #[.int .i64 5, .int .i64 0] rfl (by (try simp only [map_toArray, map_cons, map_nil]); first | done | rfl | (simp only [length_drop, length_take]; rfl)) ?_; (with_reducible refine (cell_New.calls 5 0 t167 t168 t169 t170 _ A9.out).mono ?_); rintro e w66 ⟨rfl, hb⟩; refine ⟨_, rfl, ?_⟩; have n0_ := Aside0.mk (blk_below (g := gb146) (by (with_reducible repeat (first | refine pN ?_ _ | refine pD ?_ | refine pA ?_ _)); exact BK146.out) hb); have n1_ := Aside0.mk (blk_below (g := gb157) (by (with_reducible repeat (first | refine pN ?_ _ | refine pD ?_ | refine pA ?_ _)); exact BK157.out) hb); have n2_ := Aside0.mk (blk_below (g := gb162) (by (with_reducible repeat (first | refine pN ?_ _ | refine pD ?_ | refine pA ?_ _)); exact BK162.out) hb); have n3_ := Aside0.mk (below_step (by repeat (first | (with_reducible first | exact HB.out | apply below_alloc | apply pw_below_drewN | apply below_drew1 | refine below_set ?_ GE146.out | refine below_set ?_ GE157.out | refine below_set ?_ GE162.out) | exact HB.out)) hb); clear BK146; clear BK157; clear BK162; clear HB; have BK146 := n0_; have BK157 := n1_; have BK162 := n2_; have HB := n3_; clear n0_ n1_ n2_ n3_; (try clear hb); (try clear hb2); (try clear hk); (try clear hi)) | ((with_reducible refine gate_dst (N := 9) rfl ?_); refine box_event ?hg (N := 9) ?hd (cs := #[.int .i64 0, .int .i64 0, .int .i64 0, .int .i64 0]) (t := 36) ?hr ?_; (case hd => rfl); (case hg => rfl); (case hr => first | (go_simp; done) | (go_simp; rfl)); intro gb171 hg w67 hbox hb; have n0_ := Aside0.mk (blk_below (g := gb146) (by (with_reducible repeat (first | refine pN ?_ _ | refine pD ?_ | refine pA ?_ _)); exact BK146.out) hb); have n1_ := Aside0.mk (blk_below (g := gb157) (by (with_reducible repeat (first | refine pN ?_ _ | refine pD ?_ | refine pA ?_ _)); exact BK157.out) hb); have n2_ := Aside0.mk (blk_below (g := gb162) (by (with_reducible repeat (first | refine pN ?_ _ | refine pD ?_ | refine pA ?_ _)); exact BK162.out) hb); have n3_ := Aside0.mk (below_step (by repeat (first | (with_reducible first | exact HB.out | apply below_alloc | apply pw_below_drewN | apply below_drew1 | refine below_set ?_ GE146.out | refine below_set ?_ GE157.out | refine below_set ?_ GE162.out) | exact HB.out)) hb); have n4_ := Aside0.mk (hbox); have n5_ := Aside0.mk ((by rw [hg]; exact (below_size (by repeat (first | (with_reducible first | exact HB.out | apply below_alloc | apply pw_below_drewN | apply below_drew1 | refine below_set ?_ GE146.out | refine below_set ?_ GE157.out | refine below_set ?_ GE162.out) | exact HB.out))) : w.heap.size ≤ gb171)); have n6_ := n5_; have n7_ := Aside0.mk ((by rw [hg]; exact Nat.ne_of_lt (blk_lt (g := gb146) (by (with_reducible repeat (first | refine pN ?_ _ | refine pD ?_ | refine pA ?_ _)); exact BK146.out)) : gb146 ≠ gb171)); have n8_ := Aside0.mk n7_.out.symm; have n9_ := Aside0.mk ((by rw [hg]; exact Nat.ne_of_lt (blk_lt (g := gb157) (by (with_reducible repeat (first | refine pN ?_ _ | refine pD ?_ | refine pA ?_ _)); exact BK157.out)) : gb157 ≠ gb171)); have n10_ := Aside0.mk n9_.out.symm; have n11_ := Aside0.mk ((by rw [hg]; exact Nat.ne_of_lt (blk_lt (g := gb162) (by (with_reducible repeat (first | refine pN ?_ _ | refine pD ?_ | refine pA ?_ _)); exact BK162.out)) : gb162 ≠ gb171)); have n12_ := Aside0.mk n11_.out.symm; clear BK146; clear BK157; clear BK162; clear HB; have BK146 := n0_; have BK157 := n1_; have BK162 := n2_; have HB := n3_; have BK171 := n4_; have GW171 := n5_; have GE171 := n6_; have NB146_171 := n7_; have NB171_146 := n8_; have NB157_171 := n9_; have NB171_157 := n10_; have NB162_171 := n11_; have NB171_162 := n12_; clear n0_ n1_ n2_ n3_ n4_ n5_ n6_ n7_ n8_ n9_ n10_ n11_ n12_; clear hb hbox hg) | ((with_reducible refine gate_dst (N := 10) rfl ?_); refine box_event ?hg (N := 10) ?hd (cs := #[.int .i64 0, .int .i64 0, .int .i64 0, .int .i64 0]) (t := 36) ?hr ?_; (case hd => rfl); (case hg => rfl); (case hr => first | (go_simp; done) | (go_simp; rfl)); intro gb172 hg w68 hbox hb; have n0_ := Aside0.mk (blk_below (g := gb146) (by (with_reducible repeat (first | refine pN ?_ _ | refine pD ?_ | refine pA ?_ _)); exact BK146.out) hb); have n1_ := Aside0.mk (blk_below (g := gb157) (by (with_reducible repeat (first | refine pN ?_ _ | refine pD ?_ | refine pA ?_ _)); exact BK157.out) hb); have n2_ := Aside0.mk (blk_below (g := gb162) (by (with_reducible repeat (first | refine pN ?_ _ | refine pD ?_ | refine pA ?_ _)); exact BK162.out) hb); have n3_ := Aside0.mk (blk_below (g := gb171) (by (with_reducible repeat (first | refine pN ?_ _ | refine pD ?_ | refine pA ?_ _)); exact BK171.out) hb); have n4_ := Aside0.mk (below_step (by repeat (first | (with_reducible first | exact HB.out | apply below_alloc | apply pw_below_drewN | apply below_drew1 | refine below_set ?_ GE146.out | refine below_set ?_ GE157.out | refine below_set ?_ GE162.out | refine below_set ?_ GE171.out) | exact HB.out)) hb); have n5_ := Aside0.mk (hbox); have n6_ := Aside0.mk ((by rw [hg]; exact (below_size (by repeat (first | (with_reducible first | exact HB.out | apply below_alloc | apply pw_below_drewN | apply below_drew1 | refine below_set ?_ GE146.out | refine below_set ?_ GE157.out | refine below_set ?_ GE162.out | refine below_set ?_ GE171.out) | exact HB.out))) : w.heap.size ≤ gb172)); have n7_ := n6_; have n8_ := Aside0.mk ((by rw [hg]; exact Nat.ne_of_lt (blk_lt (g := gb146) (by (with_reducible repeat (first | refine pN ?_ _ | refine pD ?_ | refine pA ?_ _)); exact BK146.out)) : gb146 ≠ gb172)); have n9_ := Aside0.mk n8_.out.symm; have n10_ := Aside0.mk ((by rw [hg]; exact Nat.ne_of_lt (blk_lt (g := gb157) (by (with_reducible repeat (first | refine pN ?_ _ | refine pD ?_ | refine pA ?_ _)); exact BK157.out)) : gb157 ≠ gb172)); have n11_ := Aside0.mk n10_.out.symm; have n12_ := Aside0.mk ((by rw [hg]; exact Nat.ne_of_lt (blk_lt (g := gb162) (by (with_reducible repeat (first | refine pN ?_ _ | refine pD ?_ | refine pA ?_ _)); exact BK162.out)) : gb162 ≠ gb172)); have n13_ := Aside0.mk n12_.out.symm; have n14_ := Aside0.mk ((by rw [hg]; exact Nat.ne_of_lt (blk_lt (g := gb171) (by (with_reducible repeat (first | refine pN ?_ _ | refine pD ?_ | refine pA ?_ _)); exact BK171.out)) : gb171 ≠ gb172)); have n15_ := Aside0.mk n14_.out.symm; clear BK146; clear BK157; clear BK162; clear BK171; clear HB; have BK146 := n0_; have BK157 := n1_; have BK162 := n2_; have BK171 := n3_; have HB := n4_; have BK172 := n5_; have GW172 := n6_; have GE172 := n7_; have NB146_172 := n8_; have NB172_146 := n9_; have NB157_172 := n10_; have NB172_157 := n11_; have NB162_172 := n12_; have NB172_162 := n13_; have NB171_172 := n14_; have NB172_171 := n15_; clear n0_ n1_ n2_ n3_ n4_ n5_ n6_ n7_ n8_ n9_ n10_ n11_ n12_ n13_ n14_ n15_; clear hb hbox hg; have hnb69 := NB171_146.out; have hnc69 := NB146_171.out; have hnb70 := NB171_157.out; have hnc70 := NB157_171.out; have hnb71 := NB171_162.out; have hnc71 := NB162_171.out; have hnb72 := NB171_172.out; have hnc72 := NB172_171.out; have hcz73_0 : w68.cell? ⟨gb171, 0, none⟩ = some (.int .i64 0) := (blk_cell BK171.out 0).trans rfl; have hcz73_1 : w68.cell? ⟨gb171, 1, none⟩ = some (.int .i64 0) := (blk_cell BK171.out 1).trans rfl; have hcz73_2 : w68.cell? ⟨gb171, 2, none⟩ = some (.int .i64 0) := (blk_cell BK171.out 2).trans rfl; have hcz73_3 : w68.cell? ⟨gb171, 3, none⟩ = some (.int .i64 0) := (blk_cell BK171.out 3).trans rfl; have hfz73_0 := blk_frozen BK171.out 0; have hfz73_1 := blk_frozen BK171.out 1; have hfz73_2 := blk_frozen BK171.out 2; have hfz73_3 := blk_frozen BK171.out 3; have hnb74 := NB172_146.out; have hnc74 := NB146_172.out; have hnb75 := NB172_157.out; have hnc75 := NB157_172.out; have hnb76 := NB172_162.out; have hnc76 := NB162_172.out; have hcz77_0 : w68.cell? ⟨gb172, 0, none⟩ = some (.int .i64 0) := (blk_cell BK172.out 0).trans rfl; have hcz77_1 : w68.cell? ⟨gb172, 1, none⟩ = some (.int .i64 0) := (blk_cell BK172.out 1).trans rfl; have hcz77_2 : w68.cell? ⟨gb172, 2, none⟩ = some (.int .i64 0) := (blk_cell BK172.out 2).trans rfl; have hcz77_3 : w68.cell? ⟨gb172, 3, none⟩ = some (.int .i64 0) := (blk_cell BK172.out 3).trans rfl; have hfz77_0 := blk_frozen BK172.out 0; have hfz77_1 := blk_frozen BK172.out 1; have hfz77_2 := blk_frozen BK172.out 2; have hfz77_3 := blk_frozen BK172.out 3; have hcz78_0 : w68.cell? ⟨gb157, 0, none⟩ = some (.int .i64 t148) := (blk_cell BK157.out 0).trans rfl; have hcz78_1 : w68.cell? ⟨gb157, 1, none⟩ = some (.int .i64 t149) := (blk_cell BK157.out 1).trans rfl; have hcz78_2 : w68.cell? ⟨gb157, 2, none⟩ = some (.int .i64 t150) := (blk_cell BK157.out 2).trans rfl; have hcz78_3 : w68.cell? ⟨gb157, 3, none⟩ = some (.int .i64 t151) := (blk_cell BK157.out 3).trans rfl; have hcz78_4 : w68.cell? ⟨gb157, 4, none⟩ = some (.int .i64 t152) := (blk_cell BK157.out 4).trans rfl; have hcz78_5 : w68.cell? ⟨gb157, 5, none⟩ = some (.int .i64 t153) := (blk_cell BK157.out 5).trans rfl; have hcz78_6 : w68.cell? ⟨gb157, 6, none⟩ = some (.int .i64 t154) := (blk_cell BK157.out 6).trans rfl; have hcz78_7 : w68.cell? ⟨gb157, 7, none⟩ = some (.int .i64 t155) := (blk_cell BK157.out 7).trans rfl; have hcz78_8 : w68.cell? ⟨gb157, 8, none⟩ = some (.bool t156) := (blk_cell BK157.out 8).trans rfl; have hfz78_0 := blk_frozen BK157.out 0; have hfz78_1 := blk_frozen BK157.out 1; have hfz78_2 := blk_frozen BK157.out 2; have hfz78_3 := blk_frozen BK157.out 3; have hfz78_4 := blk_frozen BK157.out 4; have hfz78_5 := blk_frozen BK157.out 5; have hfz78_6 := blk_frozen BK157.out 6; have hfz78_7 := blk_frozen BK157.out 7; have hfz78_8 := blk_frozen BK157.out 8))
            have n0_ : Aside0 (((((((((w68.setCell ⟨gb171, 0, none⟩ (.int .i64 t163)).setCell ⟨gb171, 1, none⟩ (.int .i64 t164)).setCell ⟨gb171, 2, none⟩ (.int .i64 t165)).setCell ⟨gb171, 3, none⟩ (.int .i64 t166)).setCell ⟨gb172, 0, none⟩ (.int .i64 t167)).setCell ⟨gb172, 1, none⟩ (.int .i64 t168)).setCell ⟨gb172, 2, none⟩ (.int .i64 t169)).setCell ⟨gb172, 3, none⟩ (.int .i64 t170)).heap[gb146]? = some (.cells #[.int .i64 a0_0, .int .i64 a0_1, .int .i64 a0_2] 23 (0, 0))) := ⟨by (with_reducible repeat (first | refine pN ?_ _ | refine pD ?_ | refine pA ?_ _)); refine blk_far ?_ NB146_172.out _; (with_reducible repeat (first | refine pN ?_ _ | refine pD ?_ | refine pA ?_ _)); refine blk_far ?_ NB146_172.out _; (with_reducible repeat (first | refine pN ?_ _ | refine pD ?_ | refine pA ?_ _)); refine blk_far ?_ NB146_172.out _; (with_reducible repeat (first | refine pN ?_ _ | refine pD ?_ | refine pA ?_ _)); refine blk_far ?_ NB146_172.out _; (with_reducible repeat (first | refine pN ?_ _ | refine pD ?_ | refine pA ?_ _)); refine blk_far ?_ NB146_171.out _; (with_reducible repeat (first | refine pN ?_ _ | refine pD ?_ | refine pA ?_ _)); refine blk_far ?_ NB146_171.out _; (with_reducible repeat (first | refine pN ?_ _ | refine pD ?_ | refine pA ?_ _)); refine blk_far ?_ NB146_171.out _; (with_reducible repeat (first | refine pN ?_ _ | refine pD ?_ | refine pA ?_ _)); refine blk_far ?_ NB146_171.out _; (with_reducible repeat (first | refine pN ?_ _ | refine pD ?_ | refine pA ?_ _)); exact BK146.out⟩
            have n1_ : Aside0 (((((((((w68.setCell ⟨gb171, 0, none⟩ (.int .i64 t163)).setCell ⟨gb171, 1, none⟩ (.int .i64 t164)).setCell ⟨gb171, 2, none⟩ (.int .i64 t165)).setCell ⟨gb171, 3, none⟩ (.int .i64 t166)).setCell ⟨gb172, 0, none⟩ (.int .i64 t167)).setCell ⟨gb172, 1, none⟩ (.int .i64 t168)).setCell ⟨gb172, 2, none⟩ (.int .i64 t169)).setCell ⟨gb172, 3, none⟩ (.int .i64 t170)).heap[gb157]? = some (.cells #[.int .i64 t148, .int .i64 t149, .int .i64 t150, .int .i64 t151, .int .i64 t152, .int .i64 t153, .int .i64 t154, .int .i64 t155, .bool t156] 28 (0, 0))) := ⟨by (with_reducible repeat (first | refine pN ?_ _ | refine pD ?_ | refine pA ?_ _)); refine blk_far ?_ NB157_172.out _; (with_reducible repeat (first | refine pN ?_ _ | refine pD ?_ | refine pA ?_ _)); refine blk_far ?_ NB157_172.out _; (with_reducible repeat (first | refine pN ?_ _ | refine pD ?_ | refine pA ?_ _)); refine blk_far ?_ NB157_172.out _; (with_reducible repeat (first | refine pN ?_ _ | refine pD ?_ | refine pA ?_ _)); refine blk_far ?_ NB157_172.out _; (with_reducible repeat (first | refine pN ?_ _ | refine pD ?_ | refine pA ?_ _)); refine blk_far ?_ NB157_171.out _; (with_reducible repeat (first | refine pN ?_ _ | refine pD ?_ | refine pA ?_ _)); refine blk_far ?_ NB157_171.out _; (with_reducible repeat (first | refine pN ?_ _ | refine pD ?_ | refine pA ?_ _)); refine blk_far ?_ NB157_171.out _; (with_reducible repeat (first | refine pN ?_ _ | refine pD ?_ | refine pA ?_ _)); refine blk_far ?_ NB157_171.out _; (with_reducible repeat (first | refine pN ?_ _ | refine pD ?_ | refine pA ?_ _)); exact BK157.out⟩
            have n2_ : Aside0 (((((((((w68.setCell ⟨gb171, 0, none⟩ (.int .i64 t163)).setCell ⟨gb171, 1, none⟩ (.int .i64 t164)).setCell ⟨gb171, 2, none⟩ (.int .i64 t165)).setCell ⟨gb171, 3, none⟩ (.int .i64 t166)).setCell ⟨gb172, 0, none⟩ (.int .i64 t167)).setCell ⟨gb172, 1, none⟩ (.int .i64 t168)).setCell ⟨gb172, 2, none⟩ (.int .i64 t169)).setCell ⟨gb172, 3, none⟩ (.int .i64 t170)).heap[gb162]? = some (.cells #[.int .i64 t158, .int .i64 t159, .int .i64 t160, .int .i64 t161] 31 (0, 0))) := ⟨by (with_reducible repeat (first | refine pN ?_ _ | refine pD ?_ | refine pA ?_ _)); refine blk_far ?_ NB162_172.out _; (with_reducible repeat (first | refine pN ?_ _ | refine pD ?_ | refine pA ?_ _)); refine blk_far ?_ NB162_172.out _; (with_reducible repeat (first | refine pN ?_ _ | refine pD ?_ | refine pA ?_ _)); refine blk_far ?_ NB162_172.out _; (with_reducible repeat (first | refine pN ?_ _ | refine pD ?_ | refine pA ?_ _)); refine blk_far ?_ NB162_172.out _; (with_reducible repeat (first | refine pN ?_ _ | refine pD ?_ | refine pA ?_ _)); refine blk_far ?_ NB162_171.out _; (with_reducible repeat (first | refine pN ?_ _ | refine pD ?_ | refine pA ?_ _)); refine blk_far ?_ NB162_171.out _; (with_reducible repeat (first | refine pN ?_ _ | refine pD ?_ | refine pA ?_ _)); refine blk_far ?_ NB162_171.out _; (with_reducible repeat (first | refine pN ?_ _ | refine pD ?_ | refine pA ?_ _)); refine blk_far ?_ NB162_171.out _; (with_reducible repeat (first | refine pN ?_ _ | refine pD ?_ | refine pA ?_ _)); exact BK162.out⟩
            have n3_ : Aside0 (((((((((w68.setCell ⟨gb171, 0, none⟩ (.int .i64 t163)).setCell ⟨gb171, 1, none⟩ (.int .i64 t164)).setCell ⟨gb171, 2, none⟩ (.int .i64 t165)).setCell ⟨gb171, 3, none⟩ (.int .i64 t166)).setCell ⟨gb172, 0, none⟩ (.int .i64 t167)).setCell ⟨gb172, 1, none⟩ (.int .i64 t168)).setCell ⟨gb172, 2, none⟩ (.int .i64 t169)).setCell ⟨gb172, 3, none⟩ (.int .i64 t170)).heap[gb171]? = some (.cells #[.int .i64 t163, .int .i64 t164, .int .i64 t165, .int .i64 t166] 36 (0, 0))) := ⟨by (with_reducible repeat (first | refine pN ?_ _ | refine pD ?_ | refine pA ?_ _)); refine blk_far ?_ NB171_172.out _; (with_reducible repeat (first | refine pN ?_ _ | refine pD ?_ | refine pA ?_ _)); refine blk_far ?_ NB171_172.out _; (with_reducible repeat (first | refine pN ?_ _ | refine pD ?_ | refine pA ?_ _)); refine blk_far ?_ NB171_172.out _; (with_reducible repeat (first | refine pN ?_ _ | refine pD ?_ | refine pA ?_ _)); refine blk_far ?_ NB171_172.out _; (with_reducible repeat (first | refine pN ?_ _ | refine pD ?_ | refine pA ?_ _)); refine blk_put (cs := #[.int .i64 t163, .int .i64 t164, .int .i64 t165, .int .i64 0]) ?_ 3 _ rfl; (with_reducible repeat (first | refine pN ?_ _ | refine pD ?_ | refine pA ?_ _)); refine blk_put (cs := #[.int .i64 t163, .int .i64 t164, .int .i64 0, .int .i64 0]) ?_ 2 _ rfl; (with_reducible repeat (first | refine pN ?_ _ | refine pD ?_ | refine pA ?_ _)); refine blk_put (cs := #[.int .i64 t163, .int .i64 0, .int .i64 0, .int .i64 0]) ?_ 1 _ rfl; (with_reducible repeat (first | refine pN ?_ _ | refine pD ?_ | refine pA ?_ _)); refine blk_put (cs := #[.int .i64 0, .int .i64 0, .int .i64 0, .int .i64 0]) ?_ 0 _ rfl; (with_reducible repeat (first | refine pN ?_ _ | refine pD ?_ | refine pA ?_ _)); exact BK171.out⟩
            have n4_ : Aside0 (((((((((w68.setCell ⟨gb171, 0, none⟩ (.int .i64 t163)).setCell ⟨gb171, 1, none⟩ (.int .i64 t164)).setCell ⟨gb171, 2, none⟩ (.int .i64 t165)).setCell ⟨gb171, 3, none⟩ (.int .i64 t166)).setCell ⟨gb172, 0, none⟩ (.int .i64 t167)).setCell ⟨gb172, 1, none⟩ (.int .i64 t168)).setCell ⟨gb172, 2, none⟩ (.int .i64 t169)).setCell ⟨gb172, 3, none⟩ (.int .i64 t170)).heap[gb172]? = some (.cells #[.int .i64 t167, .int .i64 t168, .int .i64 t169, .int .i64 t170] 36 (0, 0))) := ⟨by (with_reducible repeat (first | refine pN ?_ _ | refine pD ?_ | refine pA ?_ _)); refine blk_put (cs := #[.int .i64 t167, .int .i64 t168, .int .i64 t169, .int .i64 0]) ?_ 3 _ rfl; (with_reducible repeat (first | refine pN ?_ _ | refine pD ?_ | refine pA ?_ _)); refine blk_put (cs := #[.int .i64 t167, .int .i64 t168, .int .i64 0, .int .i64 0]) ?_ 2 _ rfl; (with_reducible repeat (first | refine pN ?_ _ | refine pD ?_ | refine pA ?_ _)); refine blk_put (cs := #[.int .i64 t167, .int .i64 0, .int .i64 0, .int .i64 0]) ?_ 1 _ rfl; (with_reducible repeat (first | refine pN ?_ _ | refine pD ?_ | refine pA ?_ _)); refine blk_put (cs := #[.int .i64 0, .int .i64 0, .int .i64 0, .int .i64 0]) ?_ 0 _ rfl; (with_reducible repeat (first | refine pN ?_ _ | refine pD ?_ | refine pA ?_ _)); refine blk_far ?_ NB172_171.out _; (with_reducible repeat (first | refine pN ?_ _ | refine pD ?_ | refine pA ?_ _)); refine blk_far ?_ NB172_171.out _; (with_reducible repeat (first | refine pN ?_ _ | refine pD ?_ | refine pA ?_ _)); refine blk_far ?_ NB172_171.out _; (with_reducible repeat (first | refine pN ?_ _ | refine pD ?_ | refine pA ?_ _)); refine blk_far ?_ NB172_171.out _; (with_reducible repeat (first | refine pN ?_ _ | refine pD ?_ | refine pA ?_ _)); exact BK172.out⟩
            have n5_ : Aside0 (Below w.heap.size w ((((((((w68.setCell ⟨gb171, 0, none⟩ (.int .i64 t163)).setCell ⟨gb171, 1, none⟩ (.int .i64 t164)).setCell ⟨gb171, 2, none⟩ (.int .i64 t165)).setCell ⟨gb171, 3, none⟩ (.int .i64 t166)).setCell ⟨gb172, 0, none⟩ (.int .i64 t167)).setCell ⟨gb172, 1, none⟩ (.int .i64 t168)).setCell ⟨gb172, 2, none⟩ (.int .i64 t169)).setCell ⟨gb172, 3, none⟩ (.int .i64 t170))) := ⟨by repeat (first | (with_reducible first | exact HB.out | apply below_alloc | apply pw_below_drewN | apply below_drew1 | refine below_set ?_ GE146.out | refine below_set ?_ GE157.out | refine below_set ?_ GE162.out | refine below_set ?_ GE171.out | refine below_set ?_ GE172.out) | exact HB.out)⟩
            (try clear BK146)
            (try clear BK157)
            (try clear BK162)
            (try clear BK171)
            (try clear BK172)
            (try clear HB)
            generalize ((((((((w68.setCell ⟨gb171, 0, none⟩ (.int .i64 t163)).setCell ⟨gb171, 1, none⟩ (.int .i64 t164)).setCell ⟨gb171, 2, none⟩ (.int .i64 t165)).setCell ⟨gb171, 3, none⟩ (.int .i64 t166)).setCell ⟨gb172, 0, none⟩ (.int .i64 t167)).setCell ⟨gb172, 1, none⟩ (.int .i64 t168)).setCell ⟨gb172, 2, none⟩ (.int .i64 t169)).setCell ⟨gb172, 3, none⟩ (.int .i64 t170)) = w79 at n0_ n1_ n2_ n3_ n4_ n5_ ⊢
            have BK146 := n0_
            have BK157 := n1_
            have BK162 := n2_
            have BK171 := n3_
            have BK172 := n4_
            have HB := n5_
            clear n0_ n1_ n2_ n3_ n4_ n5_
            have n0_ := Aside0.mk (blk_drew BK146.out)
            have n1_ := Aside0.mk (blk_drew BK157.out)
            have n2_ := Aside0.mk (blk_drew BK162.out)
            have n3_ := Aside0.mk (blk_drew BK171.out)
            have n4_ := Aside0.mk (blk_drew BK172.out)
            have n5_ := Aside0.mk (below_drew1 HB.out)
            clear BK146
            clear BK157
            clear BK162
            clear BK171
            clear BK172
            clear HB
            have BK146 := n0_
            have BK157 := n1_
            have BK162 := n2_
            have BK171 := n3_
            have BK172 := n4_
            have HB := n5_
            clear n0_ n1_ n2_ n3_ n4_ n5_
            refine start_ (n := 10) (S := fun w' => w'.cell? ⟨gb171, 0, none⟩ = some (.int .i64 t163) ∧ w'.cell? ⟨gb171, 1, none⟩ = some (.int .i64 t164) ∧ w'.cell? ⟨gb171, 2, none⟩ = some (.int .i64 t165) ∧ w'.cell? ⟨gb171, 3, none⟩ = some (.int .i64 t166) ∧ w'.cell? ⟨gb162, 0, none⟩ = some (.int .i64 t158) ∧ w'.cell? ⟨gb162, 1, none⟩ = some (.int .i64 t159) ∧ w'.cell? ⟨gb162, 2, none⟩ = some (.int .i64 t160) ∧ w'.cell? ⟨gb162, 3, none⟩ = some (.int .i64 t161) ∧ w'.cell? ⟨gb157, 0, none⟩ = some (.int .i64 t148) ∧ w'.cell? ⟨gb157, 1, none⟩ = some (.int .i64 t149) ∧ w'.cell? ⟨gb157, 2, none⟩ = some (.int .i64 t150) ∧ w'.cell? ⟨gb157, 3, none⟩ = some (.int .i64 t151) ∧ w'.cell? ⟨gb157, 4, none⟩ = some (.int .i64 t152) ∧ w'.cell? ⟨gb157, 5, none⟩ = some (.int .i64 t153) ∧ w'.cell? ⟨gb157, 6, none⟩ = some (.int .i64 t154) ∧ w'.cell? ⟨gb157, 7, none⟩ = some (.int .i64 t155) ∧ w'.cell? ⟨gb157, 8, none⟩ = some (.bool t156)) (ds := []) #[false, false, false, false, false, false, false, false, false, false] (by kernel_rfl) rfl rfl ⟨(blk_cell BK171.out 0).trans rfl, (blk_cell BK171.out 1).trans rfl, (blk_cell BK171.out 2).trans rfl, (blk_cell BK171.out 3).trans rfl, (blk_cell BK162.out 0).trans rfl, (blk_cell BK162.out 1).trans rfl, (blk_cell BK162.out 2).trans rfl, (blk_cell BK162.out 3).trans rfl, (blk_cell BK157.out 0).trans rfl, (blk_cell BK157.out 1).trans rfl, (blk_cell BK157.out 2).trans rfl, (blk_cell BK157.out 3).trans rfl, (blk_cell BK157.out 4).trans rfl, (blk_cell BK157.out 5).trans rfl, (blk_cell BK157.out 6).trans rfl, (blk_cell BK157.out 7).trans rfl, (blk_cell BK157.out 8).trans rfl⟩ (fun hHeld => ?_); refine with_tabW weighbridgelaw09_CellCarry.tab11 weighbridgelaw09_CellCarry.bits11 (fun HT_ HW_ => ?_)
            generalize w79.drew = w80 at BK146 BK157 BK162 BK171 BK172 HB hHeld ⊢
            refine pure_ (i := 2) (N := some 55) (v := ?_) (a' := ?_) #[false, false, true, false, false, false, false, false, false, false] rfl rfl (any_of HT_.out (by kernel_rfl)) (fun _ _ _ h => h) (Or.inl ⟨by rfl, ?_⟩) ?_ ?_
            rotate_left
            · intro w'
              go_simp
              with_reducible rfl
            rotate_left
            · simp only [Act.put, setIfInBounds_toArray, set_cons_zero, set_cons_succ, i64_w, i32_w]
              rfl
            refine pure_ (i := 3) (N := some 56) (v := ?_) (a' := ?_) #[false, false, true, true, false, false, false, false, false, false] rfl rfl (any_of HT_.out (by kernel_rfl)) (fun _ _ _ h => h) (Or.inl ⟨by rfl, ?_⟩) ?_ ?_
            rotate_left
            · intro w'
              go_simp
              with_reducible rfl
            rotate_left
            · simp only [Act.put, setIfInBounds_toArray, set_cons_zero, set_cons_succ, i64_w, i32_w]
              rfl
            refine pure_ (i := 5) (N := some 58) (v := ?_) (a' := ?_) #[false, false, true, true, false, true, false, false, false, false] rfl rfl (any_of HT_.out (by kernel_rfl)) (fun _ _ _ h => h) (Or.inl ⟨by rfl, ?_⟩) ?_ ?_
            rotate_left
            · intro w'
              go_simp
              with_reducible rfl
            rotate_left
            · simp only [Act.put, setIfInBounds_toArray, set_cons_zero, set_cons_succ, i64_w, i32_w]
              rfl
            refine pure_ (i := 6) (N := some 59) (v := ?_) (a' := ?_) #[false, false, true, true, false, true, true, false, false, false] rfl rfl (any_of HT_.out (by kernel_rfl)) (fun _ _ _ h => h) (Or.inl ⟨by rfl, ?_⟩) ?_ ?_
            rotate_left
            · intro w'
              go_simp
              with_reducible rfl
            rotate_left
            · simp only [Act.put, setIfInBounds_toArray, set_cons_zero, set_cons_succ, i64_w, i32_w]
              rfl
            refine take_ (i := 0) (N := some 53) (v := ?_) (a' := ?_) #[true, false, true, true, false, true, true, false, false, false] rfl rfl (take_ofW HT_.out HW_.out (by kernel_rfl)) (fun _ _ _ h => h) (Or.inl ⟨by rfl, ?_⟩) hHeld ?_ ?_
            rotate_left
            · rintro w' ⟨s0, s1, s2, s3, s4, s5, s6, s7, s8, s9, s10, s11, s12, s13, s14, s15, s16⟩
              go_simp
              with_reducible rfl
            rotate_left
            · simp only [Act.put, setIfInBounds_toArray, set_cons_zero, set_cons_succ, i64_w, i32_w]
              rfl
            refine take_ (i := 1) (N := some 54) (v := ?_) (a' := ?_) #[true, true, true, true, false, true, true, false, false, false] rfl rfl (take_ofW HT_.out HW_.out (by kernel_rfl)) (fun _ _ _ h => h) (Or.inl ⟨by rfl, ?_⟩) hHeld ?_ ?_
            rotate_left
            · rintro w' ⟨s0, s1, s2, s3, s4, s5, s6, s7, s8, s9, s10, s11, s12, s13, s14, s15, s16⟩
              go_simp
              with_reducible rfl
            rotate_left
            · simp only [Act.put, setIfInBounds_toArray, set_cons_zero, set_cons_succ, i64_w, i32_w]
              rfl
            refine take_ (i := 7) (N := some 60) (v := ?_) (a' := ?_) #[true, true, true, true, false, true, true, true, false, false] rfl rfl (take_ofW HT_.out HW_.out (by kernel_rfl)) (fun _ _ _ h => h) (Or.inl ⟨by rfl, ?_⟩) hHeld ?_ ?_
            rotate_left
            · rintro w' ⟨s0, s1, s2, s3, s4, s5, s6, s7, s8, s9, s10, s11, s12, s13, s14, s15, s16⟩
              go_simp
              with_reducible rfl
            rotate_left
            · simp only [Act.put, setIfInBounds_toArray, set_cons_zero, set_cons_succ, i64_w, i32_w]
              rfl
            refine pure_ (i := 8) (N := some 61) (v := ?_) (a' := ?_) #[true, true, true, true, false, true, true, true, true, false] rfl rfl (any_of HT_.out (by kernel_rfl)) (fun _ _ _ h => h) (Or.inl ⟨by rfl, ?_⟩) ?_ ?_
            rotate_left
            · intro w'
              go_simp
              with_reducible rfl
            rotate_left
            · simp only [Act.put, setIfInBounds_toArray, set_cons_zero, set_cons_succ, i64_w, i32_w]
              rfl
            refine one_ (i := 4) (N := some 57) #[true, true, true, true, true, true, true, true, true, false] rfl rfl (one_of HT_.out (by kernel_rfl)) (by decide) (fun K hK => ?_)
            refine goes_ Try.func17 (by kernel_rfl) rfl #[.agg #[.int .i64 t163, .int .i64 t164, .int .i64 t165, .int .i64 t166], .agg #[.int .i64 t158, .int .i64 t159, .int .i64 t160, .int .i64 t161], .int .i64 (wrap64 (5 + (Go.bits .and .i64 a2 1023)))] (by rfl) rfl rfl (by (try simp only [map_toArray, map_cons, map_nil]); first | done | rfl | (simp only [length_drop, length_take]; rfl)) ?_
            with_reducible refine (cell_Cell_Room.calls k t163 t164 t165 t166 t158 t159 t160 t161 (wrap64 (5 + (Go.bits .and .i64 a2 1023))) t176 _ A47.out).mono ?_
            rintro e w81 ⟨rfl, hb⟩
            refine ⟨_, rfl, ?_⟩
            have n0_ := Aside0.mk (blk_below (g := gb146) (by (with_reducible repeat (first | refine pN ?_ _ | refine pD ?_ | refine pA ?_ _)); exact BK146.out) hb)
            have n1_ := Aside0.mk (blk_below (g := gb157) (by (with_reducible repeat (first | refine pN ?_ _ | refine pD ?_ | refine pA ?_ _)); exact BK157.out) hb)
            have n2_ := Aside0.mk (blk_below (g := gb162) (by (with_reducible repeat (first | refine pN ?_ _ | refine pD ?_ | refine pA ?_ _)); exact BK162.out) hb)
            have n3_ := Aside0.mk (blk_below (g := gb171) (by (with_reducible repeat (first | refine pN ?_ _ | refine pD ?_ | refine pA ?_ _)); exact BK171.out) hb)
            have n4_ := Aside0.mk (blk_below (g := gb172) (by (with_reducible repeat (first | refine pN ?_ _ | refine pD ?_ | refine pA ?_ _)); exact BK172.out) hb)
            have n5_ := Aside0.mk (below_step (by repeat (first | (with_reducible first | exact HB.out | apply below_alloc | apply pw_below_drewN | apply below_drew1 | refine below_set ?_ GE146.out | refine below_set ?_ GE157.out | refine below_set ?_ GE162.out | refine below_set ?_ GE171.out | refine below_set ?_ GE172.out) | exact HB.out)) hb)
            clear BK146
            clear BK157
            clear BK162
            clear BK171
            clear BK172
            clear HB
            have BK146 := n0_
            have BK157 := n1_
            have BK162 := n2_
            have BK171 := n3_
            have BK172 := n4_
            have HB := n5_
            clear n0_ n1_ n2_ n3_ n4_ n5_
            (try clear hb)
            (try clear hb2)
            (try clear hk)
            (try clear hi)
            refine hK.out _ _ ⟨(blk_cell BK171.out 0).trans rfl, (blk_cell BK171.out 1).trans rfl, (blk_cell BK171.out 2).trans rfl, (blk_cell BK171.out 3).trans rfl, (blk_cell BK162.out 0).trans rfl, (blk_cell BK162.out 1).trans rfl, (blk_cell BK162.out 2).trans rfl, (blk_cell BK162.out 3).trans rfl, (blk_cell BK157.out 0).trans rfl, (blk_cell BK157.out 1).trans rfl, (blk_cell BK157.out 2).trans rfl, (blk_cell BK157.out 3).trans rfl, (blk_cell BK157.out 4).trans rfl, (blk_cell BK157.out 5).trans rfl, (blk_cell BK157.out 6).trans rfl, (blk_cell BK157.out 7).trans rfl, (blk_cell BK157.out 8).trans rfl⟩ (fun hHeld => ?_)
            clear hK K
            refine norm_ (a' := ?_) ?_ ?_
            rotate_left
            · show Act.put _ (some 57) _ = _
              simp only [Act.put, setIfInBounds_toArray, set_cons_zero, set_cons_succ, i64_w, i32_w]
              rfl
            refine pure_ (i := 9) (N := some 62) (v := ?_) (a' := ?_) #[true, true, true, true, true, true, true, true, true, true] rfl rfl (any_of HT_.out (by kernel_rfl)) (fun _ _ _ h => h) (Or.inl ⟨by rfl, ?_⟩) ?_ ?_
            rotate_left
            · intro w'
              go_simp
              with_reducible rfl
            rotate_left
            · simp only [Act.put, setIfInBounds_toArray, set_cons_zero, set_cons_succ, i64_w, i32_w]
              rfl
            refine done_ (done_of HT_.out (by kernel_rfl)) ?_
            try go_wp2
            have n0_ := Aside0.mk (blk_drew BK146.out)
            have n1_ := Aside0.mk (blk_drew BK157.out)
            have n2_ := Aside0.mk (blk_drew BK162.out)
            have n3_ := Aside0.mk (blk_drew BK171.out)
            have n4_ := Aside0.mk (blk_drew BK172.out)
            have n5_ := Aside0.mk (below_drew1 HB.out)
            clear BK146
            clear BK157
            clear BK162
            clear BK171
            clear BK172
            clear HB
            have BK146 := n0_
            have BK157 := n1_
            have BK162 := n2_
            have BK171 := n3_
            have BK172 := n4_
            have HB := n5_
            clear n0_ n1_ n2_ n3_ n4_ n5_
            refine start_ (n := 27) (S := fun w' => w'.cell? ⟨gb171, 0, none⟩ = some (.int .i64 t163) ∧ w'.cell? ⟨gb171, 1, none⟩ = some (.int .i64 t164) ∧ w'.cell? ⟨gb171, 2, none⟩ = some (.int .i64 t165) ∧ w'.cell? ⟨gb171, 3, none⟩ = some (.int .i64 t166) ∧ w'.cell? ⟨gb162, 0, none⟩ = some (.int .i64 t158) ∧ w'.cell? ⟨gb162, 1, none⟩ = some (.int .i64 t159) ∧ w'.cell? ⟨gb162, 2, none⟩ = some (.int .i64 t160) ∧ w'.cell? ⟨gb162, 3, none⟩ = some (.int .i64 t161)) (ds := []) #[false, false, false, false, false, false, false, false, false, false, false, false, false, false, false, false, false, false, false, false, false, false, false, false, false, false, false] (by kernel_rfl) rfl rfl ⟨(blk_cell BK171.out 0).trans rfl, (blk_cell BK171.out 1).trans rfl, (blk_cell BK171.out 2).trans rfl, (blk_cell BK171.out 3).trans rfl, (blk_cell BK162.out 0).trans rfl, (blk_cell BK162.out 1).trans rfl, (blk_cell BK162.out 2).trans rfl, (blk_cell BK162.out 3).trans rfl⟩ (fun hHeld => ?_); refine with_tabW weighbridgelaw09_CellCarry.tab13 weighbridgelaw09_CellCarry.bits13 (fun HT_ HW_ => ?_)
            generalize w81.drew = w82 at BK146 BK157 BK162 BK171 BK172 HB hHeld ⊢
            refine pure_ (i := 0) (N := some 63) (v := ?_) (a' := ?_) #[true, false, false, false, false, false, false, false, false, false, false, false, false, false, false, false, false, false, false, false, false, false, false, false, false, false, false] rfl rfl (any_of HT_.out (by kernel_rfl)) (fun _ _ _ h => h) (Or.inl ⟨by rfl, ?_⟩) ?_ ?_
            rotate_left
            · intro w'
              go_simp
              with_reducible rfl
            rotate_left
            · simp only [Act.put, setIfInBounds_toArray, set_cons_zero, set_cons_succ, i64_w, i32_w]
              rfl
            refine pure_ (i := 1) (N := some 64) (v := ?_) (a' := ?_) #[true, true, false, false, false, false, false, false, false, false, false, false, false, false, false, false, false, false, false, false, false, false, false, false, false, false, false] rfl rfl (any_of HT_.out (by kernel_rfl)) (fun _ _ _ h => h) (Or.inl ⟨by rfl, ?_⟩) ?_ ?_
            rotate_left
            · intro w'
              go_simp
              with_reducible rfl
            rotate_left
            · simp only [Act.put, setIfInBounds_toArray, set_cons_zero, set_cons_succ, i64_w, i32_w]
              rfl
            refine pure_ (i := 2) (N := some 65) (v := ?_) (a' := ?_) #[true, true, true, false, false, false, false, false, false, false, false, false, false, false, false, false, false, false, false, false, false, false, false, false, false, false, false] rfl rfl (any_of HT_.out (by kernel_rfl)) (fun _ _ _ h => h) (Or.inl ⟨by rfl, ?_⟩) ?_ ?_
            rotate_left
            · intro w'
              go_simp
              with_reducible rfl
            rotate_left
            · simp only [Act.put, setIfInBounds_toArray, set_cons_zero, set_cons_succ, i64_w, i32_w]
              rfl
            refine pure_ (i := 5) (N := some 68) (v := ?_) (a' := ?_) #[true, true, true, false, false, true, false, false, false, false, false, false, false, false, false, false, false, false, false, false, false, false, false, false, false, false, false] rfl rfl (any_of HT_.out (by kernel_rfl)) (fun _ _ _ h => h) (Or.inl ⟨by rfl, ?_⟩) ?_ ?_
            rotate_left
            · intro w'
              go_simp
              with_reducible rfl
            rotate_left
            · simp only [Act.put, setIfInBounds_toArray, set_cons_zero, set_cons_succ, i64_w, i32_w]
              rfl
            refine pure_ (i := 6) (N := some 69) (v := ?_) (a' := ?_) #[true, true, true, false, false, true, true, false, false, false, false, false, false, false, false, false, false, false, false, false, false, false, false, false, false, false, false] rfl rfl (any_of HT_.out (by kernel_rfl)) (fun _ _ _ h => h) (Or.inl ⟨by rfl, ?_⟩) ?_ ?_
            rotate_left
            · intro w'
              go_simp
              with_reducible rfl
            rotate_left
            · simp only [Act.put, setIfInBounds_toArray, set_cons_zero, set_cons_succ, i64_w, i32_w]
              rfl
            refine take_ (i := 3) (N := some 66) (v := ?_) (a' := ?_) #[true, true, true, true, false, true, true, false, false, false, false, false, false, false, false, false, false, false, false, false, false, false, false, false, false, false, false] rfl rfl (take_ofW HT_.out HW_.out (by kernel_rfl)) (fun _ _ _ h => h) (Or.inl ⟨by rfl, ?_⟩) hHeld ?_ ?_
            rotate_left
            · rintro w' ⟨s0, s1, s2, s3, s4, s5, s6, s7⟩
              go_simp
              with_reducible rfl
            rotate_left
            · simp only [Act.put, setIfInBounds_toArray, set_cons_zero, set_cons_succ, i64_w, i32_w]
              rfl
            refine take_ (i := 4) (N := some 67) (v := ?_) (a' := ?_) #[true, true, true, true, true, true, true, false, false, false, false, false, false, false, false, false, false, false, false, false, false, false, false, false, false, false, false] rfl rfl (take_ofW HT_.out HW_.out (by kernel_rfl)) (fun _ _ _ h => h) (Or.inl ⟨by rfl, ?_⟩) hHeld ?_ ?_
            rotate_left
            · rintro w' ⟨s0, s1, s2, s3, s4, s5, s6, s7⟩
              go_simp
              with_reducible rfl
            rotate_left
            · simp only [Act.put, setIfInBounds_toArray, set_cons_zero, set_cons_succ, i64_w, i32_w]
              rfl
            refine one_ (i := 7) (N := some 70) #[true, true, true, true, true, true, true, true, false, false, false, false, false, false, false, false, false, false, false, false, false, false, false, false, false, false, false] rfl rfl (one_of HT_.out (by kernel_rfl)) (by decide) (fun K hK => ?_)
            refine goes_ Try.func19 (by kernel_rfl) rfl #[.agg #[.int .i64 t163, .int .i64 t164, .int .i64 t165, .int .i64 t166], .agg #[.int .i64 t158, .int .i64 t159, .int .i64 t160, .int .i64 t161], .int .i64 (wrap64 (5 + (Go.bits .and .i64 a2 1023))), .int .i64 1] (by rfl) rfl rfl (by (try simp only [map_toArray, map_cons, map_nil]); first | done | rfl | (simp only [length_drop, length_take]; rfl)) ?_
            with_reducible refine (cell_Cell_Wait.calls t163 t164 t165 t166 t158 t159 t160 t161 (wrap64 (5 + (Go.bits .and .i64 a2 1023))) 1 t177 _ A51.out).mono ?_
            rintro e w83 ⟨rfl, hb⟩
            refine ⟨_, rfl, ?_⟩
            have n0_ := Aside0.mk (blk_below (g := gb146) (by (with_reducible repeat (first | refine pN ?_ _ | refine pD ?_ | refine pA ?_ _)); exact BK146.out) hb)
            have n1_ := Aside0.mk (blk_below (g := gb157) (by (with_reducible repeat (first | refine pN ?_ _ | refine pD ?_ | refine pA ?_ _)); exact BK157.out) hb)
            have n2_ := Aside0.mk (blk_below (g := gb162) (by (with_reducible repeat (first | refine pN ?_ _ | refine pD ?_ | refine pA ?_ _)); exact BK162.out) hb)
            have n3_ := Aside0.mk (blk_below (g := gb171) (by (with_reducible repeat (first | refine pN ?_ _ | refine pD ?_ | refine pA ?_ _)); exact BK171.out) hb)
            have n4_ := Aside0.mk (blk_below (g := gb172) (by (with_reducible repeat (first | refine pN ?_ _ | refine pD ?_ | refine pA ?_ _)); exact BK172.out) hb)
            have n5_ := Aside0.mk (below_step (by repeat (first | (with_reducible first | exact HB.out | apply below_alloc | apply pw_below_drewN | apply below_drew1 | refine below_set ?_ GE146.out | refine below_set ?_ GE157.out | refine below_set ?_ GE162.out | refine below_set ?_ GE171.out | refine below_set ?_ GE172.out) | exact HB.out)) hb)
            clear BK146
            clear BK157
            clear BK162
            clear BK171
            clear BK172
            clear HB
            have BK146 := n0_
            have BK157 := n1_
            have BK162 := n2_
            have BK171 := n3_
            have BK172 := n4_
            have HB := n5_
            clear n0_ n1_ n2_ n3_ n4_ n5_
            (try clear hb)
            (try clear hb2)
            (try clear hk)
            (try clear hi)
            refine hK.out _ _ ⟨(blk_cell BK171.out 0).trans rfl, (blk_cell BK171.out 1).trans rfl, (blk_cell BK171.out 2).trans rfl, (blk_cell BK171.out 3).trans rfl, (blk_cell BK162.out 0).trans rfl, (blk_cell BK162.out 1).trans rfl, (blk_cell BK162.out 2).trans rfl, (blk_cell BK162.out 3).trans rfl⟩ (fun hHeld => ?_)
            clear hK K
            refine norm_ (a' := ?_) ?_ ?_
            rotate_left
            · show Act.put _ (some 70) _ = _
              simp only [Act.put, setIfInBounds_toArray, set_cons_zero, set_cons_succ, i64_w, i32_w]
              rfl
            refine pure_ (i := 8) (N := some 71) (v := ?_) (a' := ?_) #[true, true, true, true, true, true, true, true, true, false, false, false, false, false, false, false, false, false, false, false, false, false, false, false, false, false, false] rfl rfl (any_of HT_.out (by kernel_rfl)) (fun _ _ _ h => h) (Or.inl ⟨by rfl, ?_⟩) ?_ ?_
            rotate_left
            · intro w'
              go_simp
              with_reducible rfl
            rotate_left
            · simp only [Act.put, setIfInBounds_toArray, set_cons_zero, set_cons_succ, i64_w, i32_w]
              rfl
            refine pure_ (i := 9) (N := some 72) (v := ?_) (a' := ?_) #[true, true, true, true, true, true, true, true, true, true, false, false, false, false, false, false, false, false, false, false, false, false, false, false, false, false, false] rfl rfl (any_of HT_.out (by kernel_rfl)) (fun _ _ _ h => h) (Or.inl ⟨by rfl, ?_⟩) ?_ ?_
            rotate_left
            · intro w'
              go_simp
              with_reducible rfl
            rotate_left
            · simp only [Act.put, setIfInBounds_toArray, set_cons_zero, set_cons_succ, i64_w, i32_w]
              rfl
            refine pure_ (i := 10) (N := some 73) (v := ?_) (a' := ?_) #[true, true, true, true, true, true, true, true, true, true, true, false, false, false, false, false, false, false, false, false, false, false, false, false, false, false, false] rfl rfl (any_of HT_.out (by kernel_rfl)) (fun _ _ _ h => h) (Or.inl ⟨by rfl, ?_⟩) ?_ ?_
            rotate_left
            · intro w'
              go_simp
              with_reducible rfl
            rotate_left
            · simp only [Act.put, setIfInBounds_toArray, set_cons_zero, set_cons_succ, i64_w, i32_w]
              rfl
            refine pure_ (i := 11) (N := some 74) (v := undef) (a' := ?_) #[true, true, true, true, true, true, true, true, true, true, true, true, false, false, false, false, false, false, false, false, false, false, false, false, false, false, false] rfl rfl (any_of HT_.out (by kernel_rfl)) (fun _ _ _ h => h) (Or.inr ⟨by rfl, rfl⟩) ?_ ?_
            rotate_left
            · simp only [Act.put, setIfInBounds_toArray, set_cons_zero, set_cons_succ, i64_w, i32_w]
              rfl
            refine pure_ (i := 12) (N := some 75) (v := undef) (a' := ?_) #[true, true, true, true, true, true, true, true, true, true, true, true, true, false, false, false, false, false, false, false, false, false, false, false, false, false, false] rfl rfl (any_of HT_.out (by kernel_rfl)) (fun _ _ _ h => h) (Or.inr ⟨by rfl, rfl⟩) ?_ ?_
            rotate_left
            · simp only [Act.put, setIfInBounds_toArray, set_cons_zero, set_cons_succ, i64_w, i32_w]
              rfl
            refine pure_ (i := 13) (N := some 76) (v := undef) (a' := ?_) #[true, true, true, true, true, true, true, true, true, true, true, true, true, true, false, false, false, false, false, false, false, false, false, false, false, false, false] rfl rfl (any_of HT_.out (by kernel_rfl)) (fun _ _ _ h => h) (Or.inr ⟨by rfl, rfl⟩) ?_ ?_
            rotate_left
            · simp only [Act.put, setIfInBounds_toArray, set_cons_zero, set_cons_succ, i64_w, i32_w]
              rfl
            refine pure_ (i := 14) (N := some 77) (v := undef) (a' := ?_) #[true, true, true, true, true, true, true, true, true, true, true, true, true, true, true, false, false, false, false, false, false, false, false, false, false, false, false] rfl rfl (any_of HT_.out (by kernel_rfl)) (fun _ _ _ h => h) (Or.inr ⟨by rfl, rfl⟩) ?_ ?_
            rotate_left
            · simp only [Act.put, setIfInBounds_toArray, set_cons_zero, set_cons_succ, i64_w, i32_w]
              rfl
            refine pure_ (i := 15) (N := some 78) (v := undef) (a' := ?_) #[true, true, true, true, true, true, true, true, true, true, true, true, true, true, true, true, false, false, false, false, false, false, false, false, false, false, false] rfl rfl (any_of HT_.out (by kernel_rfl)) (fun _ _ _ h => h) (Or.inr ⟨by rfl, rfl⟩) ?_ ?_
            rotate_left
            · simp only [Act.put, setIfInBounds_toArray, set_cons_zero, set_cons_succ, i64_w, i32_w]
              rfl
            refine pure_ (i := 16) (N := some 79) (v := undef) (a' := ?_) #[true, true, true, true, true, true, true, true, true, true, true, true, true, true, true, true, true, false, false, false, false, false, false, false, false, false, false] rfl rfl (any_of HT_.out (by kernel_rfl)) (fun _ _ _ h => h) (Or.inr ⟨by rfl, rfl⟩) ?_ ?_
            rotate_left
            · simp only [Act.put, setIfInBounds_toArray, set_cons_zero, set_cons_succ, i64_w, i32_w]
              rfl
            refine pure_ (i := 17) (N := some 80) (v := undef) (a' := ?_) #[true, true, true, true, true, true, true, true, true, true, true, true, true, true, true, true, true, true, false, false, false, false, false, false, false, false, false] rfl rfl (any_of HT_.out (by kernel_rfl)) (fun _ _ _ h => h) (Or.inr ⟨by rfl, rfl⟩) ?_ ?_
            rotate_left
            · simp only [Act.put, setIfInBounds_toArray, set_cons_zero, set_cons_succ, i64_w, i32_w]
              rfl
            refine pure_ (i := 18) (N := some 81) (v := undef) (a' := ?_) #[true, true, true, true, true, true, true, true, true, true, true, true, true, true, true, true, true, true, true, false, false, false, false, false, false, false, false] rfl rfl (any_of HT_.out (by kernel_rfl)) (fun _ _ _ h => h) (Or.inr ⟨by rfl, rfl⟩) ?_ ?_
            rotate_left
            · simp only [Act.put, setIfInBounds_toArray, set_cons_zero, set_cons_succ, i64_w, i32_w]
              rfl
            refine pure_ (i := 19) (N := some 82) (v := undef) (a' := ?_) #[true, true, true, true, true, true, true, true, true, true, true, true, true, true, true, true, true, true, true, true, false, false, false, false, false, false, false] rfl rfl (any_of HT_.out (by kernel_rfl)) (fun _ _ _ h => h) (Or.inr ⟨by rfl, rfl⟩) ?_ ?_
            rotate_left
            · simp only [Act.put, setIfInBounds_toArray, set_cons_zero, set_cons_succ, i64_w, i32_w]
              rfl
            refine pure_ (i := 20) (N := some 83) (v := undef) (a' := ?_) #[true, true, true, true, true, true, true, true, true, true, true, true, true, true, true, true, true, true, true, true, true, false, false, false, false, false, false] rfl rfl (any_of HT_.out (by kernel_rfl)) (fun _ _ _ h => h) (Or.inr ⟨by rfl, rfl⟩) ?_ ?_
            rotate_left
            · simp only [Act.put, setIfInBounds_toArray, set_cons_zero, set_cons_succ, i64_w, i32_w]
              rfl
            refine pure_ (i := 21) (N := some 84) (v := undef) (a' := ?_) #[true, true, true, true, true, true, true, true, true, true, true, true, true, true, true, true, true, true, true, true, true, true, false, false, false, false, false] rfl rfl (any_of HT_.out (by kernel_rfl)) (fun _ _ _ h => h) (Or.inr ⟨by rfl, rfl⟩) ?_ ?_
            rotate_left
            · simp only [Act.put, setIfInBounds_toArray, set_cons_zero, set_cons_succ, i64_w, i32_w]
              rfl
            refine pure_ (i := 22) (N := some 85) (v := undef) (a' := ?_) #[true, true, true, true, true, true, true, true, true, true, true, true, true, true, true, true, true, true, true, true, true, true, true, false, false, false, false] rfl rfl (any_of HT_.out (by kernel_rfl)) (fun _ _ _ h => h) (Or.inr ⟨by rfl, rfl⟩) ?_ ?_
            rotate_left
            · simp only [Act.put, setIfInBounds_toArray, set_cons_zero, set_cons_succ, i64_w, i32_w]
              rfl
            refine pure_ (i := 23) (N := some 86) (v := undef) (a' := ?_) #[true, true, true, true, true, true, true, true, true, true, true, true, true, true, true, true, true, true, true, true, true, true, true, true, false, false, false] rfl rfl (any_of HT_.out (by kernel_rfl)) (fun _ _ _ h => h) (Or.inr ⟨by rfl, rfl⟩) ?_ ?_
            rotate_left
            · simp only [Act.put, setIfInBounds_toArray, set_cons_zero, set_cons_succ, i64_w, i32_w]
              rfl
            refine pure_ (i := 24) (N := some 87) (v := undef) (a' := ?_) #[true, true, true, true, true, true, true, true, true, true, true, true, true, true, true, true, true, true, true, true, true, true, true, true, true, false, false] rfl rfl (any_of HT_.out (by kernel_rfl)) (fun _ _ _ h => h) (Or.inr ⟨by rfl, rfl⟩) ?_ ?_
            rotate_left
            · simp only [Act.put, setIfInBounds_toArray, set_cons_zero, set_cons_succ, i64_w, i32_w]
              rfl
            refine pure_ (i := 25) (N := some 88) (v := ?_) (a' := ?_) #[true, true, true, true, true, true, true, true, true, true, true, true, true, true, true, true, true, true, true, true, true, true, true, true, true, true, false] rfl rfl (any_of HT_.out (by kernel_rfl)) (fun _ _ _ h => h) (Or.inl ⟨by rfl, ?_⟩) ?_ ?_
            rotate_left
            · intro w'
              go_simp
              with_reducible rfl
            rotate_left
            · simp only [Act.put, setIfInBounds_toArray, set_cons_zero, set_cons_succ, i64_w, i32_w]
              rfl
            refine pure_ (i := 26) (N := some 6) (v := ?_) (a' := ?_) #[true, true, true, true, true, true, true, true, true, true, true, true, true, true, true, true, true, true, true, true, true, true, true, true, true, true, true] rfl rfl (any_of HT_.out (by kernel_rfl)) (fun _ _ _ h => h) (Or.inl ⟨by rfl, ?_⟩) ?_ ?_
            rotate_left
            · intro w'
              go_simp
              with_reducible rfl
            rotate_left
            · simp only [Act.put, setIfInBounds_toArray, set_cons_zero, set_cons_succ, i64_w, i32_w]
              rfl
            refine done_ (done_of HT_.out (by kernel_rfl)) ?_
            try go_wp2
            go_ret
            exact ⟨by first | rfl | (simp [errW_none, errW_some] <;> rfl) | (simp only [← hji46, ← hji48]; first | rfl | (simp [errW_none, errW_some] <;> rfl)) | (simp [*, errW_none, errW_some] <;> rfl), by repeat (first | (with_reducible first | exact HB.out | apply below_alloc | apply pw_below_drewN | apply below_drew1 | refine below_set ?_ GE146.out | refine below_set ?_ GE157.out | refine below_set ?_ GE162.out | refine below_set ?_ GE171.out | refine below_set ?_ GE172.out) | exact HB.out)⟩
          · rw [if_neg c52] at H
            have c52b0 : (t177 == 0) = false := beq_eq_false_iff_ne.mpr c52
            have c52b1 : (t177 != 0) = true := bne_iff_ne.mpr c52
            by_cases c84 : (ji46) = 0
            · rw [if_pos c84] at H
              have c84b0 : ((ji46) == 0) = true := beq_iff_eq.mpr c84
              have c84b1 : ((ji46) != 0) = false := bne_eq_false_iff_eq.mpr c84
              clear c84
              replace H := Option.bind_eq_some_iff.mp H
              obtain ⟨t178, A850, H⟩ := H
              obtain rfl : t177 = t178 := Option.some.inj (A51.out.symm.trans A850)
              replace H : (some (t177 == (wrap64 (t149 - (Go.bits .and .i64 a2 1023))))) = some r := H
              have A85 := Aside0.mk A850
              clear A850
              obtain rfl := Option.some.inj H
              go_enter Try.func7, Try.ntmps7
              try go_wp2_with (first | ((with_reducible refine gate_dst (N := 3) rfl ?_); refine box_event ?hg (N := 3) ?hd (cs := #[.int .i64 a0_0, .int .i64 a0_1, .int .i64 a0_2]) (t := 23) ?hr ?_; (case hd => rfl); (case hg => rfl); (case hr => first | (go_simp; done) | (go_simp; rfl)); intro gb146 hg w86 hbox hb; have n0_ := Aside0.mk (below_step (by repeat (first | (with_reducible first | exact HB.out | apply below_alloc | apply pw_below_drewN | apply below_drew1) | exact HB.out)) hb); have n1_ := Aside0.mk (hbox); have n2_ := Aside0.mk ((by rw [hg]; exact (below_size (by repeat (first | (with_reducible first | exact HB.out | apply below_alloc | apply pw_below_drewN | apply below_drew1) | exact HB.out))) : w.heap.size ≤ gb146)); have n3_ := n2_; clear HB; have HB := n0_; have BK146 := n1_; have GW146 := n2_; have GE146 := n3_; clear n0_ n1_ n2_ n3_; clear hb hbox hg) | ((with_reducible refine gate_callee (f := 11) rfl ?_); refine goesL_ (some 12) rfl rfl Try.func11 (by kernel_rfl) rfl #[] rfl (by (try simp only [map_toArray, map_cons, map_nil]); first | done | rfl | (simp only [length_drop, length_take]; rfl)) ?_; (with_reducible refine (weighbridgelaw09_fit.calls k  true _ A4.out).mono ?_); rintro e w87 ⟨rfl, hb⟩; refine ⟨_, rfl, ?_⟩; have n0_ := Aside0.mk (blk_below (g := gb146) (by (with_reducible repeat (first | refine pN ?_ _ | refine pD ?_ | refine pA ?_ _)); exact BK146.out) hb); have n1_ := Aside0.mk (below_step (by repeat (first | (with_reducible first | exact HB.out | apply below_alloc | apply pw_below_drewN | apply below_drew1 | refine below_set ?_ GE146.out) | exact HB.out)) hb); clear BK146; clear HB; have BK146 := n0_; have HB := n1_; clear n0_ n1_; (try clear hb); (try clear hb2); (try clear hk); (try clear hi); have hcz88_0 : w87.cell? ⟨gb146, 0, none⟩ = some (.int .i64 a0_0) := (blk_cell BK146.out 0).trans rfl; have hcz88_1 : w87.cell? ⟨gb146, 1, none⟩ = some (.int .i64 a0_1) := (blk_cell BK146.out 1).trans rfl; have hcz88_2 : w87.cell? ⟨gb146, 2, none⟩ = some (.int .i64 a0_2) := (blk_cell BK146.out 2).trans rfl; have hfz88_0 := blk_frozen BK146.out 0; have hfz88_1 := blk_frozen BK146.out 1; have hfz88_2 := blk_frozen BK146.out 2) | ((with_reducible refine gate_callee (f := 12) rfl ?_); refine goesL_ (some 15) rfl rfl Try.func12 (by kernel_rfl) rfl #[.agg #[.int .i64 a0_0, .int .i64 a0_1, .int .i64 a0_2]] rfl (by (try simp only [map_toArray, map_cons, map_nil]); first | done | rfl | (simp only [length_drop, length_take]; rfl)) ?_; (with_reducible refine (weighbridgelaw09_Plan_Rule.calls a0_0 a0_1 a0_2 t148 t149 t150 t151 t152 t153 t154 t155 t156 _ A6.out).mono ?_); rintro e w89 ⟨rfl, hb⟩; refine ⟨_, rfl, ?_⟩; have n0_ := Aside0.mk (blk_below (g := gb146) (by (with_reducible repeat (first | refine pN ?_ _ | refine pD ?_ | refine pA ?_ _)); exact BK146.out) hb); have n1_ := Aside0.mk (below_step (by repeat (first | (with_reducible first | exact HB.out | apply below_alloc | apply pw_below_drewN | apply below_drew1 | refine below_set ?_ GE146.out) | exact HB.out)) hb); clear BK146; clear HB; have BK146 := n0_; have HB := n1_; clear n0_ n1_; (try clear hb); (try clear hb2); (try clear hk); (try clear hi)) | ((with_reducible refine gate_dst (N := 7) rfl ?_); refine box_event ?hg (N := 7) ?hd (cs := #[.int .i64 0, .int .i64 0, .int .i64 0, .int .i64 0, .int .i64 0, .int .i64 0, .int .i64 0, .int .i64 0, .bool false]) (t := 28) ?hr ?_; (case hd => rfl); (case hg => rfl); (case hr => first | (go_simp; done) | (go_simp; rfl)); intro gb157 hg w90 hbox hb; have n0_ := Aside0.mk (blk_below (g := gb146) (by (with_reducible repeat (first | refine pN ?_ _ | refine pD ?_ | refine pA ?_ _)); exact BK146.out) hb); have n1_ := Aside0.mk (below_step (by repeat (first | (with_reducible first | exact HB.out | apply below_alloc | apply pw_below_drewN | apply below_drew1 | refine below_set ?_ GE146.out) | exact HB.out)) hb); have n2_ := Aside0.mk (hbox); have n3_ := Aside0.mk ((by rw [hg]; exact (below_size (by repeat (first | (with_reducible first | exact HB.out | apply below_alloc | apply pw_below_drewN | apply below_drew1 | refine below_set ?_ GE146.out) | exact HB.out))) : w.heap.size ≤ gb157)); have n4_ := n3_; have n5_ := Aside0.mk ((by rw [hg]; exact Nat.ne_of_lt (blk_lt (g := gb146) (by (with_reducible repeat (first | refine pN ?_ _ | refine pD ?_ | refine pA ?_ _)); exact BK146.out)) : gb146 ≠ gb157)); have n6_ := Aside0.mk n5_.out.symm; clear BK146; clear HB; have BK146 := n0_; have HB := n1_; have BK157 := n2_; have GW157 := n3_; have GE157 := n4_; have NB146_157 := n5_; have NB157_146 := n6_; clear n0_ n1_ n2_ n3_ n4_ n5_ n6_; clear hb hbox hg; have hnb91 := NB157_146.out; have hnc91 := NB146_157.out; have hcz92_0 : w90.cell? ⟨gb157, 0, none⟩ = some (.int .i64 0) := (blk_cell BK157.out 0).trans rfl; have hcz92_1 : w90.cell? ⟨gb157, 1, none⟩ = some (.int .i64 0) := (blk_cell BK157.out 1).trans rfl; have hcz92_2 : w90.cell? ⟨gb157, 2, none⟩ = some (.int .i64 0) := (blk_cell BK157.out 2).trans rfl; have hcz92_3 : w90.cell? ⟨gb157, 3, none⟩ = some (.int .i64 0) := (blk_cell BK157.out 3).trans rfl; have hcz92_4 : w90.cell? ⟨gb157, 4, none⟩ = some (.int .i64 0) := (blk_cell BK157.out 4).trans rfl; have hcz92_5 : w90.cell? ⟨gb157, 5, none⟩ = some (.int .i64 0) := (blk_cell BK157.out 5).trans rfl; have hcz92_6 : w90.cell? ⟨gb157, 6, none⟩ = some (.int .i64 0) := (blk_cell BK157.out 6).trans rfl; have hcz92_7 : w90.cell? ⟨gb157, 7, none⟩ = some (.int .i64 0) := (blk_cell BK157.out 7).trans rfl; have hcz92_8 : w90.cell? ⟨gb157, 8, none⟩ = some (.bool false) := (blk_cell BK157.out 8).trans rfl; have hfz92_0 := blk_frozen BK157.out 0; have hfz92_1 := blk_frozen BK157.out 1; have hfz92_2 := blk_frozen BK157.out 2; have hfz92_3 := blk_frozen BK157.out 3; have hfz92_4 := blk_frozen BK157.out 4; have hfz92_5 := blk_frozen BK157.out 5; have hfz92_6 := blk_frozen BK157.out 6; have hfz92_7 := blk_frozen BK157.out 7; have hfz92_8 := blk_frozen BK157.out 8) | ((with_reducible refine gate_callee (f := 13) rfl ?_); refine goesL_ (some 17) rfl rfl Try.func13 (by kernel_rfl) rfl #[.agg #[.int .i64 t148, .int .i64 t149, .int .i64 t150, .int .i64 t151, .int .i64 t152, .int .i64 t153, .int .i64 t154, .int .i64 t155, .bool t156]] rfl (by (try simp only [map_toArray, map_cons, map_nil]); first | done | rfl | (simp only [length_drop, length_take]; rfl)) ?_; (with_reducible refine (cell_Of.calls k t148 t149 t150 t151 t152 t153 t154 t155 t156 t158 t159 t160 t161 _ A7.out).mono ?_); rintro e w93 ⟨rfl, hb⟩; refine ⟨_, rfl, ?_⟩; have n0_ := Aside0.mk (blk_below (g := gb146) (o := .cells #[.int .i64 a0_0, .int .i64 a0_1, .int .i64 a0_2] 23 (0, 0)) (by (with_reducible repeat (first | refine pN ?_ _ | refine pD ?_ | refine pA ?_ _)); refine blk_far ?_ NB146_157.out _; (with_reducible repeat (first | refine pN ?_ _ | refine pD ?_ | refine pA ?_ _)); refine blk_far ?_ NB146_157.out _; (with_reducible repeat (first | refine pN ?_ _ | refine pD ?_ | refine pA ?_ _)); refine blk_far ?_ NB146_157.out _; (with_reducible repeat (first | refine pN ?_ _ | refine pD ?_ | refine pA ?_ _)); refine blk_far ?_ NB146_157.out _; (with_reducible repeat (first | refine pN ?_ _ | refine pD ?_ | refine pA ?_ _)); refine blk_far ?_ NB146_157.out _; (with_reducible repeat (first | refine pN ?_ _ | refine pD ?_ | refine pA ?_ _)); refine blk_far ?_ NB146_157.out _; (with_reducible repeat (first | refine pN ?_ _ | refine pD ?_ | refine pA ?_ _)); refine blk_far ?_ NB146_157.out _; (with_reducible repeat (first | refine pN ?_ _ | refine pD ?_ | refine pA ?_ _)); refine blk_far ?_ NB146_157.out _; (with_reducible repeat (first | refine pN ?_ _ | refine pD ?_ | refine pA ?_ _)); refine blk_far ?_ NB146_157.out _; (with_reducible repeat (first | refine pN ?_ _ | refine pD ?_ | refine pA ?_ _)); exact BK146.out) hb); have n1_ := Aside0.mk (blk_below (g := gb157) (o := .cells #[.int .i64 t148, .int .i64 t149, .int .i64 t150, .int .i64 t151, .int .i64 t152, .int .i64 t153, .int .i64 t154, .int .i64 t155, .bool t156] 28 (0, 0)) (by (with_reducible repeat (first | refine pN ?_ _ | refine pD ?_ | refine pA ?_ _)); refine blk_put (cs := #[.int .i64 t148, .int .i64 t149, .int .i64 t150, .int .i64 t151, .int .i64 t152, .int .i64 t153, .int .i64 t154, .int .i64 t155, .bool false]) ?_ 8 _ rfl; (with_reducible repeat (first | refine pN ?_ _ | refine pD ?_ | refine pA ?_ _)); refine blk_put (cs := #[.int .i64 t148, .int .i64 t149, .int .i64 t150, .int .i64 t151, .int .i64 t152, .int .i64 t153, .int .i64 t154, .int .i64 0, .bool false]) ?_ 7 _ rfl; (with_reducible repeat (first | refine pN ?_ _ | refine pD ?_ | refine pA ?_ _)); refine blk_put (cs := #[.int .i64 t148, .int .i64 t149, .int .i64 t150, .int .i64 t151, .int .i64 t152, .int .i64 t153, .int .i64 0, .int .i64 0, .bool false]) ?_ 6 _ rfl; (with_reducible repeat (first | refine pN ?_ _ | refine pD ?_ | refine pA ?_ _)); refine blk_put (cs := #[.int .i64 t148, .int .i64 t149, .int .i64 t150, .int .i64 t151, .int .i64 t152, .int .i64 0, .int .i64 0, .int .i64 0, .bool false]) ?_ 5 _ rfl; (with_reducible repeat (first | refine pN ?_ _ | refine pD ?_ | refine pA ?_ _)); refine blk_put (cs := #[.int .i64 t148, .int .i64 t149, .int .i64 t150, .int .i64 t151, .int .i64 0, .int .i64 0, .int .i64 0, .int .i64 0, .bool false]) ?_ 4 _ rfl; (with_reducible repeat (first | refine pN ?_ _ | refine pD ?_ | refine pA ?_ _)); refine blk_put (cs := #[.int .i64 t148, .int .i64 t149, .int .i64 t150, .int .i64 0, .int .i64 0, .int .i64 0, .int .i64 0, .int .i64 0, .bool false]) ?_ 3 _ rfl; (with_reducible repeat (first | refine pN ?_ _ | refine pD ?_ | refine pA ?_ _)); refine blk_put (cs := #[.int .i64 t148, .int .i64 t149, .int .i64 0, .int .i64 0, .int .i64 0, .int .i64 0, .int .i64 0, .int .i64 0, .bool false]) ?_ 2 _ rfl; (with_reducible repeat (first | refine pN ?_ _ | refine pD ?_ | refine pA ?_ _)); refine blk_put (cs := #[.int .i64 t148, .int .i64 0, .int .i64 0, .int .i64 0, .int .i64 0, .int .i64 0, .int .i64 0, .int .i64 0, .bool false]) ?_ 1 _ rfl; (with_reducible repeat (first | refine pN ?_ _ | refine pD ?_ | refine pA ?_ _)); refine blk_put (cs := #[.int .i64 0, .int .i64 0, .int .i64 0, .int .i64 0, .int .i64 0, .int .i64 0, .int .i64 0, .int .i64 0, .bool false]) ?_ 0 _ rfl; (with_reducible repeat (first | refine pN ?_ _ | refine pD ?_ | refine pA ?_ _)); exact BK157.out) hb); have n2_ := Aside0.mk (below_step (by repeat (first | (with_reducible first | exact HB.out | apply below_alloc | apply pw_below_drewN | apply below_drew1 | refine below_set ?_ GE146.out | refine below_set ?_ GE157.out) | exact HB.out)) hb); clear BK146; clear BK157; clear HB; have BK146 := n0_; have BK157 := n1_; have HB := n2_; clear n0_ n1_ n2_; (try clear hb); (try clear hb2); (try clear hk); (try clear hi)) | ((with_reducible refine gate_dst (N := 8) rfl ?_); refine box_event ?hg (N := 8) ?hd (cs := #[.int .i64 0, .int .i64 0, .int .i64 0, .int .i64 0]) (t := 31) ?hr ?_; (case hd => rfl); (case hg => rfl); (case hr => first | (go_simp; done) | (go_simp; rfl)); intro gb162 hg w94 hbox hb; have n0_ := Aside0.mk (blk_below (g := gb146) (by (with_reducible repeat (first | refine pN ?_ _ | refine pD ?_ | refine pA ?_ _)); exact BK146.out) hb); have n1_ := Aside0.mk (blk_below (g := gb157) (by (with_reducible repeat (first | refine pN ?_ _ | refine pD ?_ | refine pA ?_ _)); exact BK157.out) hb); have n2_ := Aside0.mk (below_step (by repeat (first | (with_reducible first | exact HB.out | apply below_alloc | apply pw_below_drewN | apply below_drew1 | refine below_set ?_ GE146.out | refine below_set ?_ GE157.out) | exact HB.out)) hb); have n3_ := Aside0.mk (hbox); have n4_ := Aside0.mk ((by rw [hg]; exact (below_size (by repeat (first | (with_reducible first | exact HB.out | apply below_alloc | apply pw_below_drewN | apply below_drew1 | refine below_set ?_ GE146.out | refine below_set ?_ GE157.out) | exact HB.out))) : w.heap.size ≤ gb162)); have n5_ := n4_; have n6_ := Aside0.mk ((by rw [hg]; exact Nat.ne_of_lt (blk_lt (g := gb146) (by (with_reducible repeat (first | refine pN ?_ _ | refine pD ?_ | refine pA ?_ _)); exact BK146.out)) : gb146 ≠ gb162)); have n7_ := Aside0.mk n6_.out.symm; have n8_ := Aside0.mk ((by rw [hg]; exact Nat.ne_of_lt (blk_lt (g := gb157) (by (with_reducible repeat (first | refine pN ?_ _ | refine pD ?_ | refine pA ?_ _)); exact BK157.out)) : gb157 ≠ gb162)); have n9_ := Aside0.mk n8_.out.symm; clear BK146; clear BK157; clear HB; have BK146 := n0_; have BK157 := n1_; have HB := n2_; have BK162 := n3_; have GW162 := n4_; have GE162 := n5_; have NB146_162 := n6_; have NB162_146 := n7_; have NB157_162 := n8_; have NB162_157 := n9_; clear n0_ n1_ n2_ n3_ n4_ n5_ n6_ n7_ n8_ n9_; clear hb hbox hg; have hnb95 := NB162_146.out; have hnc95 := NB146_162.out; have hnb96 := NB162_157.out; have hnc96 := NB157_162.out; have hcz97_0 : w94.cell? ⟨gb162, 0, none⟩ = some (.int .i64 0) := (blk_cell BK162.out 0).trans rfl; have hcz97_1 : w94.cell? ⟨gb162, 1, none⟩ = some (.int .i64 0) := (blk_cell BK162.out 1).trans rfl; have hcz97_2 : w94.cell? ⟨gb162, 2, none⟩ = some (.int .i64 0) := (blk_cell BK162.out 2).trans rfl; have hcz97_3 : w94.cell? ⟨gb162, 3, none⟩ = some (.int .i64 0) := (blk_cell BK162.out 3).trans rfl; have hfz97_0 := blk_frozen BK162.out 0; have hfz97_1 := blk_frozen BK162.out 1; have hfz97_2 := blk_frozen BK162.out 2; have hfz97_3 := blk_frozen BK162.out 3) | ((with_reducible refine gate_callee (f := 15) rfl ?_); refine goesL_ (some 23) rfl rfl Try.func15 (by kernel_rfl) rfl #[.int .i64 5, .int .i64 (Go.bits .and .i64 a1 63)] rfl (by (try simp only [map_toArray, map_cons, map_nil]); first | done | rfl | (simp only [length_drop, length_take]; rfl)) ?_; (with_reducible refine (cell_New.calls 5 (Go.bits .and .i64 a1 63) t163 t164 t165 t166 _ A8.out).mono ?_); rintro e w98 ⟨rfl, hb⟩; refine ⟨_, rfl, ?_⟩; have n0_ := Aside0.mk (blk_below (g := gb146) (o := .cells #[.int .i64 a0_0, .int .i64 a0_1, .int .i64 a0_2] 23 (0, 0)) (by (with_reducible repeat (first | refine pN ?_ _ | refine pD ?_ | refine pA ?_ _)); refine blk_far ?_ NB146_162.out _; (with_reducible repeat (first | refine pN ?_ _ | refine pD ?_ | refine pA ?_ _)); refine blk_far ?_ NB146_162.out _; (with_reducible repeat (first | refine pN ?_ _ | refine pD ?_ | refine pA ?_ _)); refine blk_far ?_ NB146_162.out _; (with_reducible repeat (first | refine pN ?_ _ | refine pD ?_ | refine pA ?_ _)); refine blk_far ?_ NB146_162.out _; (with_reducible repeat (first | refine pN ?_ _ | refine pD ?_ | refine pA ?_ _)); exact BK146.out) hb); have n1_ := Aside0.mk (blk_below (g := gb157) (o := .cells #[.int .i64 t148, .int .i64 t149, .int .i64 t150, .int .i64 t151, .int .i64 t152, .int .i64 t153, .int .i64 t154, .int .i64 t155, .bool t156] 28 (0, 0)) (by (with_reducible repeat (first | refine pN ?_ _ | refine pD ?_ | refine pA ?_ _)); refine blk_far ?_ NB157_162.out _; (with_reducible repeat (first | refine pN ?_ _ | refine pD ?_ | refine pA ?_ _)); refine blk_far ?_ NB157_162.out _; (with_reducible repeat (first | refine pN ?_ _ | refine pD ?_ | refine pA ?_ _)); refine blk_far ?_ NB157_162.out _; (with_reducible repeat (first | refine pN ?_ _ | refine pD ?_ | refine pA ?_ _)); refine blk_far ?_ NB157_162.out _; (with_reducible repeat (first | refine pN ?_ _ | refine pD ?_ | refine pA ?_ _)); exact BK157.out) hb); have n2_ := Aside0.mk (blk_below (g := gb162) (o := .cells #[.int .i64 t158, .int .i64 t159, .int .i64 t160, .int .i64 t161] 31 (0, 0)) (by (with_reducible repeat (first | refine pN ?_ _ | refine pD ?_ | refine pA ?_ _)); refine blk_put (cs := #[.int .i64 t158, .int .i64 t159, .int .i64 t160, .int .i64 0]) ?_ 3 _ rfl; (with_reducible repeat (first | refine pN ?_ _ | refine pD ?_ | refine pA ?_ _)); refine blk_put (cs := #[.int .i64 t158, .int .i64 t159, .int .i64 0, .int .i64 0]) ?_ 2 _ rfl; (with_reducible repeat (first | refine pN ?_ _ | refine pD ?_ | refine pA ?_ _)); refine blk_put (cs := #[.int .i64 t158, .int .i64 0, .int .i64 0, .int .i64 0]) ?_ 1 _ rfl; (with_reducible repeat (first | refine pN ?_ _ | refine pD ?_ | refine pA ?_ _)); refine blk_put (cs := #[.int .i64 0, .int .i64 0, .int .i64 0, .int .i64 0]) ?_ 0 _ rfl; (with_reducible repeat (first | refine pN ?_ _ | refine pD ?_ | refine pA ?_ _)); exact BK162.out) hb); have n3_ := Aside0.mk (below_step (by repeat (first | (with_reducible first | exact HB.out | apply below_alloc | apply pw_below_drewN | apply below_drew1 | refine below_set ?_ GE146.out | refine below_set ?_ GE157.out | refine below_set ?_ GE162.out) | exact HB.out)) hb); clear BK146; clear BK157; clear BK162; clear HB; have BK146 := n0_; have BK157 := n1_; have BK162 := n2_; have HB := n3_; clear n0_ n1_ n2_ n3_; (try clear hb); (try clear hb2); (try clear hk); (try clear hi)) | ((with_reducible refine gate_callee (f := 15) rfl ?_); refine goesL_ (some 24) rfl rfl Try.func15 (by kernel_rfl) rfl #[.int .i64 5, .int .i64 0] rfl (by (try simp only [map_toArray, map_cons, map_nil]); first | done | rfl | (simp only [length_drop, length_take]; rfl)) ?_; (with_reducible refine (cell_New.calls 5 0 t167 t168 t169 t170 _ A9.out).mono ?_); rintro e w99 ⟨rfl, hb⟩; refine ⟨_, rfl, ?_⟩; have n0_ := Aside0.mk (blk_below (g := gb146) (by (with_reducible repeat (first | refine pN ?_ _ | refine pD ?_ | refine pA ?_ _)); exact BK146.out) hb); have n1_ := Aside0.mk (blk_below (g := gb157) (by (with_reducible repeat (first | refine pN ?_ _ | refine pD ?_ | refine pA ?_ _)); exact BK157.out) hb); have n2_ := Aside0.mk (blk_below (g := gb162) (by (with_reducible repeat (first | refine pN ?_ _ | refine pD ?_ | refine pA ?_ _)); exact BK162.out) hb); have n3_ := Aside0.mk (below_step (by repeat (first | (with_reducible first | exact HB.out | apply below_alloc | apply pw_below_drewN | apply below_drew1 | refine below_set ?_ GE146.out | refine below_set ?_ GE157.out | refine below_set ?_ GE162.out) | exact HB.out)) hb); clear BK146; clear BK157; clear BK162; clear HB; have BK146 := n0_; have BK157 := n1_; have BK162 := n2_; have HB := n3_; clear n0_ n1_ n2_ n3_; (try clear hb); (try clear hb2); (try clear hk); (try clear hi)) | ((with_reducible refine gate_dst (N := 9) rfl ?_); refine box_event ?hg (N := 9) ?hd (cs := #[.int .i64 0, .int .i64 0, .int .i64 0, .int .i64 0]) (t := 36) ?hr ?_; (case hd => rfl); (case hg => rfl); (case hr => first | (go_simp; done) | (go_simp; rfl)); intro gb171 hg w100 hbox hb; have n0_ := Aside0.mk (blk_below (g := gb146) (by (with_reducible repeat (first | refine pN ?_ _ | refine pD ?_ | refine pA ?_ _)); exact BK146.out) hb); have n1_ := Aside0.mk (blk_below (g := gb157) (by (with_reducible repeat (first | refine pN ?_ _ | refine pD ?_ | refine pA ?_ _)); exact BK157.out) hb); have n2_ := Aside0.mk (blk_below (g := gb162) (by (with_reducible repeat (first | refine pN ?_ _ | refine pD ?_ | refine pA ?_ _)); exact BK162.out) hb); have n3_ := Aside0.mk (below_step (by repeat (first | (with_reducible first | exact HB.out | apply below_alloc | apply pw_below_drewN | apply below_drew1 | refine below_set ?_ GE146.out | refine below_set ?_ GE157.out | refine below_set ?_ GE162.out) | exact HB.out)) hb); have n4_ := Aside0.mk (hbox); have n5_ := Aside0.mk ((by rw [hg]; exact (below_size (by repeat (first | (with_reducible first | exact HB.out | apply below_alloc | apply pw_below_drewN | apply below_drew1 | refine below_set ?_ GE146.out | refine below_set ?_ GE157.out | refine below_set ?_ GE162.out) | exact HB.out))) : w.heap.size ≤ gb171)); have n6_ := n5_; have n7_ := Aside0.mk ((by rw [hg]; exact Nat.ne_of_lt (blk_lt (g := gb146) (by (with_reducible repeat (first | refine pN ?_ _ | refine pD ?_ | refine pA ?_ _)); exact BK146.out)) : gb146 ≠ gb171)); have n8_ := Aside0.mk n7_.out.symm; have n9_ := Aside0.mk ((by rw [hg]; exact Nat.ne_of_lt (blk_lt (g := gb157) (by (with_reducible repeat (first | refine pN ?_ _ | refine pD ?_ | refine pA ?_ _)); exact BK157.out)) : gb157 ≠ gb171)); have n10_ := Aside0.mk n9_.out.symm; have n11_ := Aside0.mk ((by rw [hg]; exact Nat.ne_of_lt (blk_lt (g := gb162) (by (with_reducible repeat (first | refine pN ?_ _ | refine pD ?_ | refine pA ?_ _)); exact BK162.out)) : gb162 ≠ gb171)); have n12_ := Aside0.mk n11_.out.symm; clear BK146; clear BK157; clear BK162; clear HB; have BK146 := n0_; have BK157 := n1_; have BK162 := n2_; have HB := n3_; have BK171 := n4_; have GW171 := n5_; have GE171 := n6_; have NB146_171 := n7_; have NB171_146 := n8_; have NB157_171 := n9_; have NB171_157 := n10_; have NB162_171 := n11_; have NB171_162 := n12_; clear n0_ n1_ n2_ n3_ n4_ n5_ n6_ n7_ n8_ n9_ n10_ n11_ n12_; clear hb hbox hg) | ((with_reducible refine gate_dst (N := 10) rfl ?_); refine box_event ?hg (N := 10) ?hd (cs := #[.int .i64 0, .int .i64 0, .int .i64 0, .int .i64 0]) (t := 36) ?hr ?_; (case hd => rfl); (case hg => rfl); (case hr => first | (go_simp; done) | (go_simp; rfl)); intro gb172 hg w101 hbox hb; have n0_ := Aside0.mk (blk_below (g := gb146) (by (with_reducible repeat (first | refine pN ?_ _ | refine pD ?_ | refine pA ?_ _)); exact BK146.out) hb); have n1_ := Aside0.mk (blk_below (g := gb157) (by (with_reducible repeat (first | refine pN ?_ _ | refine pD ?_ | refine pA ?_ _)); exact BK157.out) hb); have n2_ := Aside0.mk (blk_below (g := gb162) (by (with_reducible repeat (first | refine pN ?_ _ | refine pD ?_ | refine pA ?_ _)); exact BK162.out) hb); have n3_ := Aside0.mk (blk_below (g := gb171) (by (with_reducible repeat (first | refine pN ?_ _ | refine pD ?_ | refine pA ?_ _)); exact BK171.out) hb); have n4_ := Aside0.mk (below_step (by repeat (first | (with_reducible first | exact HB.out | apply below_alloc | apply pw_below_drewN | apply below_drew1 | refine below_set ?_ GE146.out | refine below_set ?_ GE157.out | refine below_set ?_ GE162.out | refine below_set ?_ GE171.out) | exact HB.out)) hb); have n5_ := Aside0.mk (hbox); have n6_ := Aside0.mk ((by rw [hg]; exact (below_size (by repeat (first | (with_reducible first | exact HB.out | apply below_alloc | apply pw_below_drewN | apply below_drew1 | refine below_set ?_ GE146.out | refine below_set ?_ GE157.out | refine below_set ?_ GE162.out | refine below_set ?_ GE171.out) | exact HB.out))) : w.heap.size ≤ gb172)); have n7_ := n6_; have n8_ := Aside0.mk ((by rw [hg]; exact Nat.ne_of_lt (blk_lt (g := gb146) (by (with_reducible repeat (first | refine pN ?_ _ | refine pD ?_ | refine pA ?_ _)); exact BK146.out)) : gb146 ≠ gb172)); have n9_ := Aside0.mk n8_.out.symm; have n10_ := Aside0.mk ((by rw [hg]; exact Nat.ne_of_lt (blk_lt (g := gb157) (by (with_reducible repeat (first | refine pN ?_ _ | refine pD ?_ | refine pA ?_ _)); exact BK157.out)) : gb157 ≠ gb172)); have n11_ := Aside0.mk n10_.out.symm; have n12_ := Aside0.mk ((by rw [hg]; exact Nat.ne_of_lt (blk_lt (g := gb162) (by (with_reducible repeat (first | refine pN ?_ _ | refine pD ?_ | refine pA ?_ _)); exact BK162.out)) : gb162 ≠ gb172)); have n13_ := Aside0.mk n12_.out.symm; have n14_ := Aside0.mk ((by rw [hg]; exact Nat.ne_of_lt (blk_lt (g := gb171) (by (with_reducible repeat (first | refine pN ?_ _ | refine pD ?_ | refine pA ?_ _)); exact BK171.out)) : gb171 ≠ gb172)); have n15_ := Aside0.mk n14_.out.symm; clear BK146; clear BK157; clear BK162; clear BK171; clear HB; have BK146 := n0_; have BK157 := n1_; have BK162 := n2_; have BK171 := n3_; have HB := n4_; have BK172 := n5_; have GW172 := n6_; have GE172 := n7_; have NB146_172 := n8_; have NB172_146 := n9_; have NB157_172 := n10_; have NB172_157 := n11_; have NB162_172 := n12_; have NB172_162 := n13_; have NB171_172 := n14_; have NB172_171 := n15_; clear n0_ n1_ n2_ n3_ n4_ n5_ n6_ n7_ n8_ n9_ n10_ n11_ n12_ n13_ n14_ n15_; clear hb hbox hg; have hnb102 := NB171_146.out; have hnc102 := NB146_171.out; have hnb103 := NB171_157.out; have hnc103 := NB157_171.out; have hnb104 := NB171_162.out; have hnc104 := NB162_171.out; have hnb105 := NB171_172.out; have hnc105 := NB172_171.out; have hcz106_0 : w101.cell? ⟨gb171, 0, none⟩ = some (.int .i64 0) := (blk_cell BK171.out 0).trans rfl; have hcz106_1 : w101.cell? ⟨gb171, 1, none⟩ = some (.int .i64 0) := (blk_cell BK171.out 1).trans rfl; have hcz106_2 : w101.cell? ⟨gb171, 2, none⟩ = some (.int .i64 0) := (blk_cell BK171.out 2).trans rfl; have hcz106_3 : w101.cell? ⟨gb171, 3, none⟩ = some (.int .i64 0) := (blk_cell BK171.out 3).trans rfl; have hfz106_0 := blk_frozen BK171.out 0; have hfz106_1 := blk_frozen BK171.out 1; have hfz106_2 := blk_frozen BK171.out 2; have hfz106_3 := blk_frozen BK171.out 3; have hnb107 := NB172_146.out; have hnc107 := NB146_172.out; have hnb108 := NB172_157.out; have hnc108 := NB157_172.out; have hnb109 := NB172_162.out; have hnc109 := NB162_172.out; have hcz110_0 : w101.cell? ⟨gb172, 0, none⟩ = some (.int .i64 0) := (blk_cell BK172.out 0).trans rfl; have hcz110_1 : w101.cell? ⟨gb172, 1, none⟩ = some (.int .i64 0) := (blk_cell BK172.out 1).trans rfl; have hcz110_2 : w101.cell? ⟨gb172, 2, none⟩ = some (.int .i64 0) := (blk_cell BK172.out 2).trans rfl; have hcz110_3 : w101.cell? ⟨gb172, 3, none⟩ = some (.int .i64 0) := (blk_cell BK172.out 3).trans rfl; have hfz110_0 := blk_frozen BK172.out 0; have hfz110_1 := blk_frozen BK172.out 1; have hfz110_2 := blk_frozen BK172.out 2; have hfz110_3 := blk_frozen BK172.out 3; have hcz111_0 : w101.cell? ⟨gb157, 0, none⟩ = some (.int .i64 t148) := (blk_cell BK157.out 0).trans rfl; have hcz111_1 : w101.cell? ⟨gb157, 1, none⟩ = some (.int .i64 t149) := (blk_cell BK157.out 1).trans rfl; have hcz111_2 : w101.cell? ⟨gb157, 2, none⟩ = some (.int .i64 t150) := (blk_cell BK157.out 2).trans rfl; have hcz111_3 : w101.cell? ⟨gb157, 3, none⟩ = some (.int .i64 t151) := (blk_cell BK157.out 3).trans rfl; have hcz111_4 : w101.cell? ⟨gb157, 4, none⟩ = some (.int .i64 t152) := (blk_cell BK157.out 4).trans rfl; have hcz111_5 : w101.cell? ⟨gb157, 5, none⟩ = some (.int .i64 t153) := (blk_cell BK157.out 5).trans rfl; have hcz111_6 : w101.cell? ⟨gb157, 6, none⟩ = some (.int .i64 t154) := (blk_cell BK157.out 6).trans rfl; have hcz111_7 : w101.cell? ⟨gb157, 7, none⟩ = some (.int .i64 t155) := (blk_cell BK157.out 7).trans rfl; have hcz111_8 : w101.cell? ⟨gb157, 8, none⟩ = some (.bool t156) := (blk_cell BK157.out 8).trans rfl; have hfz111_0 := blk_frozen BK157.out 0; have hfz111_1 := blk_frozen BK157.out 1; have hfz111_2 := blk_frozen BK157.out 2; have hfz111_3 := blk_frozen BK157.out 3; have hfz111_4 := blk_frozen BK157.out 4; have hfz111_5 := blk_frozen BK157.out 5; have hfz111_6 := blk_frozen BK157.out 6; have hfz111_7 := blk_frozen BK157.out 7; have hfz111_8 := blk_frozen BK157.out 8))
              have n0_ : Aside0 (((((((((w101.setCell ⟨gb171, 0, none⟩ (.int .i64 t163)).setCell ⟨gb171, 1, none⟩ (.int .i64 t164)).setCell ⟨gb171, 2, none⟩ (.int .i64 t165)).setCell ⟨gb171, 3, none⟩ (.int .i64 t166)).setCell ⟨gb172, 0, none⟩ (.int .i64 t167)).setCell ⟨gb172, 1, none⟩ (.int .i64 t168)).setCell ⟨gb172, 2, none⟩ (.int .i64 t169)).setCell ⟨gb172, 3, none⟩ (.int .i64 t170)).heap[gb146]? = some (.cells #[.int .i64 a0_0, .int .i64 a0_1, .int .i64 a0_2] 23 (0, 0))) := ⟨by (with_reducible repeat (first | refine pN ?_ _ | refine pD ?_ | refine pA ?_ _)); refine blk_far ?_ NB146_172.out _; (with_reducible repeat (first | refine pN ?_ _ | refine pD ?_ | refine pA ?_ _)); refine blk_far ?_ NB146_172.out _; (with_reducible repeat (first | refine pN ?_ _ | refine pD ?_ | refine pA ?_ _)); refine blk_far ?_ NB146_172.out _; (with_reducible repeat (first | refine pN ?_ _ | refine pD ?_ | refine pA ?_ _)); refine blk_far ?_ NB146_172.out _; (with_reducible repeat (first | refine pN ?_ _ | refine pD ?_ | refine pA ?_ _)); refine blk_far ?_ NB146_171.out _; (with_reducible repeat (first | refine pN ?_ _ | refine pD ?_ | refine pA ?_ _)); refine blk_far ?_ NB146_171.out _; (with_reducible repeat (first | refine pN ?_ _ | refine pD ?_ | refine pA ?_ _)); refine blk_far ?_ NB146_171.out _; (with_reducible repeat (first | refine pN ?_ _ | refine pD ?_ | refine pA ?_ _)); refine blk_far ?_ NB146_171.out _; (with_reducible repeat (first | refine pN ?_ _ | refine pD ?_ | refine pA ?_ _)); exact BK146.out⟩
              have n1_ : Aside0 (((((((((w101.setCell ⟨gb171, 0, none⟩ (.int .i64 t163)).setCell ⟨gb171, 1, none⟩ (.int .i64 t164)).setCell ⟨gb171, 2, none⟩ (.int .i64 t165)).setCell ⟨gb171, 3, none⟩ (.int .i64 t166)).setCell ⟨gb172, 0, none⟩ (.int .i64 t167)).setCell ⟨gb172, 1, none⟩ (.int .i64 t168)).setCell ⟨gb172, 2, none⟩ (.int .i64 t169)).setCell ⟨gb172, 3, none⟩ (.int .i64 t170)).heap[gb157]? = some (.cells #[.int .i64 t148, .int .i64 t149, .int .i64 t150, .int .i64 t151, .int .i64 t152, .int .i64 t153, .int .i64 t154, .int .i64 t155, .bool t156] 28 (0, 0))) := ⟨by (with_reducible repeat (first | refine pN ?_ _ | refine pD ?_ | refine pA ?_ _)); refine blk_far ?_ NB157_172.out _; (with_reducible repeat (first | refine pN ?_ _ | refine pD ?_ | refine pA ?_ _)); refine blk_far ?_ NB157_172.out _; (with_reducible repeat (first | refine pN ?_ _ | refine pD ?_ | refine pA ?_ _)); refine blk_far ?_ NB157_172.out _; (with_reducible repeat (first | refine pN ?_ _ | refine pD ?_ | refine pA ?_ _)); refine blk_far ?_ NB157_172.out _; (with_reducible repeat (first | refine pN ?_ _ | refine pD ?_ | refine pA ?_ _)); refine blk_far ?_ NB157_171.out _; (with_reducible repeat (first | refine pN ?_ _ | refine pD ?_ | refine pA ?_ _)); refine blk_far ?_ NB157_171.out _; (with_reducible repeat (first | refine pN ?_ _ | refine pD ?_ | refine pA ?_ _)); refine blk_far ?_ NB157_171.out _; (with_reducible repeat (first | refine pN ?_ _ | refine pD ?_ | refine pA ?_ _)); refine blk_far ?_ NB157_171.out _; (with_reducible repeat (first | refine pN ?_ _ | refine pD ?_ | refine pA ?_ _)); exact BK157.out⟩
              have n2_ : Aside0 (((((((((w101.setCell ⟨gb171, 0, none⟩ (.int .i64 t163)).setCell ⟨gb171, 1, none⟩ (.int .i64 t164)).setCell ⟨gb171, 2, none⟩ (.int .i64 t165)).setCell ⟨gb171, 3, none⟩ (.int .i64 t166)).setCell ⟨gb172, 0, none⟩ (.int .i64 t167)).setCell ⟨gb172, 1, none⟩ (.int .i64 t168)).setCell ⟨gb172, 2, none⟩ (.int .i64 t169)).setCell ⟨gb172, 3, none⟩ (.int .i64 t170)).heap[gb162]? = some (.cells #[.int .i64 t158, .int .i64 t159, .int .i64 t160, .int .i64 t161] 31 (0, 0))) := ⟨by (with_reducible repeat (first | refine pN ?_ _ | refine pD ?_ | refine pA ?_ _)); refine blk_far ?_ NB162_172.out _; (with_reducible repeat (first | refine pN ?_ _ | refine pD ?_ | refine pA ?_ _)); refine blk_far ?_ NB162_172.out _; (with_reducible repeat (first | refine pN ?_ _ | refine pD ?_ | refine pA ?_ _)); refine blk_far ?_ NB162_172.out _; (with_reducible repeat (first | refine pN ?_ _ | refine pD ?_ | refine pA ?_ _)); refine blk_far ?_ NB162_172.out _; (with_reducible repeat (first | refine pN ?_ _ | refine pD ?_ | refine pA ?_ _)); refine blk_far ?_ NB162_171.out _; (with_reducible repeat (first | refine pN ?_ _ | refine pD ?_ | refine pA ?_ _)); refine blk_far ?_ NB162_171.out _; (with_reducible repeat (first | refine pN ?_ _ | refine pD ?_ | refine pA ?_ _)); refine blk_far ?_ NB162_171.out _; (with_reducible repeat (first | refine pN ?_ _ | refine pD ?_ | refine pA ?_ _)); refine blk_far ?_ NB162_171.out _; (with_reducible repeat (first | refine pN ?_ _ | refine pD ?_ | refine pA ?_ _)); exact BK162.out⟩
              have n3_ : Aside0 (((((((((w101.setCell ⟨gb171, 0, none⟩ (.int .i64 t163)).setCell ⟨gb171, 1, none⟩ (.int .i64 t164)).setCell ⟨gb171, 2, none⟩ (.int .i64 t165)).setCell ⟨gb171, 3, none⟩ (.int .i64 t166)).setCell ⟨gb172, 0, none⟩ (.int .i64 t167)).setCell ⟨gb172, 1, none⟩ (.int .i64 t168)).setCell ⟨gb172, 2, none⟩ (.int .i64 t169)).setCell ⟨gb172, 3, none⟩ (.int .i64 t170)).heap[gb171]? = some (.cells #[.int .i64 t163, .int .i64 t164, .int .i64 t165, .int .i64 t166] 36 (0, 0))) := ⟨by (with_reducible repeat (first | refine pN ?_ _ | refine pD ?_ | refine pA ?_ _)); refine blk_far ?_ NB171_172.out _; (with_reducible repeat (first | refine pN ?_ _ | refine pD ?_ | refine pA ?_ _)); refine blk_far ?_ NB171_172.out _; (with_reducible repeat (first | refine pN ?_ _ | refine pD ?_ | refine pA ?_ _)); refine blk_far ?_ NB171_172.out _; (with_reducible repeat (first | refine pN ?_ _ | refine pD ?_ | refine pA ?_ _)); refine blk_far ?_ NB171_172.out _; (with_reducible repeat (first | refine pN ?_ _ | refine pD ?_ | refine pA ?_ _)); refine blk_put (cs := #[.int .i64 t163, .int .i64 t164, .int .i64 t165, .int .i64 0]) ?_ 3 _ rfl; (with_reducible repeat (first | refine pN ?_ _ | refine pD ?_ | refine pA ?_ _)); refine blk_put (cs := #[.int .i64 t163, .int .i64 t164, .int .i64 0, .int .i64 0]) ?_ 2 _ rfl; (with_reducible repeat (first | refine pN ?_ _ | refine pD ?_ | refine pA ?_ _)); refine blk_put (cs := #[.int .i64 t163, .int .i64 0, .int .i64 0, .int .i64 0]) ?_ 1 _ rfl; (with_reducible repeat (first | refine pN ?_ _ | refine pD ?_ | refine pA ?_ _)); refine blk_put (cs := #[.int .i64 0, .int .i64 0, .int .i64 0, .int .i64 0]) ?_ 0 _ rfl; (with_reducible repeat (first | refine pN ?_ _ | refine pD ?_ | refine pA ?_ _)); exact BK171.out⟩
              have n4_ : Aside0 (((((((((w101.setCell ⟨gb171, 0, none⟩ (.int .i64 t163)).setCell ⟨gb171, 1, none⟩ (.int .i64 t164)).setCell ⟨gb171, 2, none⟩ (.int .i64 t165)).setCell ⟨gb171, 3, none⟩ (.int .i64 t166)).setCell ⟨gb172, 0, none⟩ (.int .i64 t167)).setCell ⟨gb172, 1, none⟩ (.int .i64 t168)).setCell ⟨gb172, 2, none⟩ (.int .i64 t169)).setCell ⟨gb172, 3, none⟩ (.int .i64 t170)).heap[gb172]? = some (.cells #[.int .i64 t167, .int .i64 t168, .int .i64 t169, .int .i64 t170] 36 (0, 0))) := ⟨by (with_reducible repeat (first | refine pN ?_ _ | refine pD ?_ | refine pA ?_ _)); refine blk_put (cs := #[.int .i64 t167, .int .i64 t168, .int .i64 t169, .int .i64 0]) ?_ 3 _ rfl; (with_reducible repeat (first | refine pN ?_ _ | refine pD ?_ | refine pA ?_ _)); refine blk_put (cs := #[.int .i64 t167, .int .i64 t168, .int .i64 0, .int .i64 0]) ?_ 2 _ rfl; (with_reducible repeat (first | refine pN ?_ _ | refine pD ?_ | refine pA ?_ _)); refine blk_put (cs := #[.int .i64 t167, .int .i64 0, .int .i64 0, .int .i64 0]) ?_ 1 _ rfl; (with_reducible repeat (first | refine pN ?_ _ | refine pD ?_ | refine pA ?_ _)); refine blk_put (cs := #[.int .i64 0, .int .i64 0, .int .i64 0, .int .i64 0]) ?_ 0 _ rfl; (with_reducible repeat (first | refine pN ?_ _ | refine pD ?_ | refine pA ?_ _)); refine blk_far ?_ NB172_171.out _; (with_reducible repeat (first | refine pN ?_ _ | refine pD ?_ | refine pA ?_ _)); refine blk_far ?_ NB172_171.out _; (with_reducible repeat (first | refine pN ?_ _ | refine pD ?_ | refine pA ?_ _)); refine blk_far ?_ NB172_171.out _; (with_reducible repeat (first | refine pN ?_ _ | refine pD ?_ | refine pA ?_ _)); refine blk_far ?_ NB172_171.out _; (with_reducible repeat (first | refine pN ?_ _ | refine pD ?_ | refine pA ?_ _)); exact BK172.out⟩
              have n5_ : Aside0 (Below w.heap.size w ((((((((w101.setCell ⟨gb171, 0, none⟩ (.int .i64 t163)).setCell ⟨gb171, 1, none⟩ (.int .i64 t164)).setCell ⟨gb171, 2, none⟩ (.int .i64 t165)).setCell ⟨gb171, 3, none⟩ (.int .i64 t166)).setCell ⟨gb172, 0, none⟩ (.int .i64 t167)).setCell ⟨gb172, 1, none⟩ (.int .i64 t168)).setCell ⟨gb172, 2, none⟩ (.int .i64 t169)).setCell ⟨gb172, 3, none⟩ (.int .i64 t170))) := ⟨by repeat (first | (with_reducible first | exact HB.out | apply below_alloc | apply pw_below_drewN | apply below_drew1 | refine below_set ?_ GE146.out | refine below_set ?_ GE157.out | refine below_set ?_ GE162.out | refine below_set ?_ GE171.out | refine below_set ?_ GE172.out) | exact HB.out)⟩
              (try clear BK146)
              (try clear BK157)
              (try clear BK162)
              (try clear BK171)
              (try clear BK172)
              (try clear HB)
              generalize ((((((((w101.setCell ⟨gb171, 0, none⟩ (.int .i64 t163)).setCell ⟨gb171, 1, none⟩ (.int .i64 t164)).setCell ⟨gb171, 2, none⟩ (.int .i64 t165)).setCell ⟨gb171, 3, none⟩ (.int .i64 t166)).setCell ⟨gb172, 0, none⟩ (.int .i64 t167)).setCell ⟨gb172, 1, none⟩ (.int .i64 t168)).setCell ⟨gb172, 2, none⟩ (.int .i64 t169)).setCell ⟨gb172, 3, none⟩ (.int .i64 t170)) = w112 at n0_ n1_ n2_ n3_ n4_ n5_ ⊢
              have BK146 := n0_
              have BK157 := n1_
              have BK162 := n2_
              have BK171 := n3_
              have BK172 := n4_
              have HB := n5_
              clear n0_ n1_ n2_ n3_ n4_ n5_
              have n0_ := Aside0.mk (blk_drew BK146.out)
              have n1_ := Aside0.mk (blk_drew BK157.out)
              have n2_ := Aside0.mk (blk_drew BK162.out)
              have n3_ := Aside0.mk (blk_drew BK171.out)
              have n4_ := Aside0.mk (blk_drew BK172.out)
              have n5_ := Aside0.mk (below_drew1 HB.out)
              clear BK146
              clear BK157
              clear BK162
              clear BK171
              clear BK172
              clear HB
              have BK146 := n0_
              have BK157 := n1_
              have BK162 := n2_
              have BK171 := n3_
              have BK172 := n4_
              have HB := n5_
              clear n0_ n1_ n2_ n3_ n4_ n5_
              refine start_ (n := 10) (S := fun w' => w'.cell? ⟨gb171, 0, none⟩ = some (.int .i64 t163) ∧ w'.cell? ⟨gb171, 1, none⟩ = some (.int .i64 t164) ∧ w'.cell? ⟨gb171, 2, none⟩ = some (.int .i64 t165) ∧ w'.cell? ⟨gb171, 3, none⟩ = some (.int .i64 t166) ∧ w'.cell? ⟨gb162, 0, none⟩ = some (.int .i64 t158) ∧ w'.cell? ⟨gb162, 1, none⟩ = some (.int .i64 t159) ∧ w'.cell? ⟨gb162, 2, none⟩ = some (.int .i64 t160) ∧ w'.cell? ⟨gb162, 3, none⟩ = some (.int .i64 t161) ∧ w'.cell? ⟨gb157, 0, none⟩ = some (.int .i64 t148) ∧ w'.cell? ⟨gb157, 1, none⟩ = some (.int .i64 t149) ∧ w'.cell? ⟨gb157, 2, none⟩ = some (.int .i64 t150) ∧ w'.cell? ⟨gb157, 3, none⟩ = some (.int .i64 t151) ∧ w'.cell? ⟨gb157, 4, none⟩ = some (.int .i64 t152) ∧ w'.cell? ⟨gb157, 5, none⟩ = some (.int .i64 t153) ∧ w'.cell? ⟨gb157, 6, none⟩ = some (.int .i64 t154) ∧ w'.cell? ⟨gb157, 7, none⟩ = some (.int .i64 t155) ∧ w'.cell? ⟨gb157, 8, none⟩ = some (.bool t156)) (ds := []) #[false, false, false, false, false, false, false, false, false, false] (by kernel_rfl) rfl rfl ⟨(blk_cell BK171.out 0).trans rfl, (blk_cell BK171.out 1).trans rfl, (blk_cell BK171.out 2).trans rfl, (blk_cell BK171.out 3).trans rfl, (blk_cell BK162.out 0).trans rfl, (blk_cell BK162.out 1).trans rfl, (blk_cell BK162.out 2).trans rfl, (blk_cell BK162.out 3).trans rfl, (blk_cell BK157.out 0).trans rfl, (blk_cell BK157.out 1).trans rfl, (blk_cell BK157.out 2).trans rfl, (blk_cell BK157.out 3).trans rfl, (blk_cell BK157.out 4).trans rfl, (blk_cell BK157.out 5).trans rfl, (blk_cell BK157.out 6).trans rfl, (blk_cell BK157.out 7).trans rfl, (blk_cell BK157.out 8).trans rfl⟩ (fun hHeld => ?_); refine with_tabW weighbridgelaw09_CellCarry.tab11 weighbridgelaw09_CellCarry.bits11 (fun HT_ HW_ => ?_)
              generalize w112.drew = w113 at BK146 BK157 BK162 BK171 BK172 HB hHeld ⊢
              refine pure_ (i := 2) (N := some 55) (v := ?_) (a' := ?_) #[false, false, true, false, false, false, false, false, false, false] rfl rfl (any_of HT_.out (by kernel_rfl)) (fun _ _ _ h => h) (Or.inl ⟨by rfl, ?_⟩) ?_ ?_
              rotate_left
              · intro w'
                go_simp
                with_reducible rfl
              rotate_left
              · simp only [Act.put, setIfInBounds_toArray, set_cons_zero, set_cons_succ, i64_w, i32_w]
                rfl
              refine pure_ (i := 3) (N := some 56) (v := ?_) (a' := ?_) #[false, false, true, true, false, false, false, false, false, false] rfl rfl (any_of HT_.out (by kernel_rfl)) (fun _ _ _ h => h) (Or.inl ⟨by rfl, ?_⟩) ?_ ?_
              rotate_left
              · intro w'
                go_simp
                with_reducible rfl
              rotate_left
              · simp only [Act.put, setIfInBounds_toArray, set_cons_zero, set_cons_succ, i64_w, i32_w]
                rfl
              refine pure_ (i := 5) (N := some 58) (v := ?_) (a' := ?_) #[false, false, true, true, false, true, false, false, false, false] rfl rfl (any_of HT_.out (by kernel_rfl)) (fun _ _ _ h => h) (Or.inl ⟨by rfl, ?_⟩) ?_ ?_
              rotate_left
              · intro w'
                go_simp
                with_reducible rfl
              rotate_left
              · simp only [Act.put, setIfInBounds_toArray, set_cons_zero, set_cons_succ, i64_w, i32_w]
                rfl
              refine pure_ (i := 6) (N := some 59) (v := ?_) (a' := ?_) #[false, false, true, true, false, true, true, false, false, false] rfl rfl (any_of HT_.out (by kernel_rfl)) (fun _ _ _ h => h) (Or.inl ⟨by rfl, ?_⟩) ?_ ?_
              rotate_left
              · intro w'
                go_simp
                with_reducible rfl
              rotate_left
              · simp only [Act.put, setIfInBounds_toArray, set_cons_zero, set_cons_succ, i64_w, i32_w]
                rfl
              refine take_ (i := 0) (N := some 53) (v := ?_) (a' := ?_) #[true, false, true, true, false, true, true, false, false, false] rfl rfl (take_ofW HT_.out HW_.out (by kernel_rfl)) (fun _ _ _ h => h) (Or.inl ⟨by rfl, ?_⟩) hHeld ?_ ?_
              rotate_left
              · rintro w' ⟨s0, s1, s2, s3, s4, s5, s6, s7, s8, s9, s10, s11, s12, s13, s14, s15, s16⟩
                go_simp
                with_reducible rfl
              rotate_left
              · simp only [Act.put, setIfInBounds_toArray, set_cons_zero, set_cons_succ, i64_w, i32_w]
                rfl
              refine take_ (i := 1) (N := some 54) (v := ?_) (a' := ?_) #[true, true, true, true, false, true, true, false, false, false] rfl rfl (take_ofW HT_.out HW_.out (by kernel_rfl)) (fun _ _ _ h => h) (Or.inl ⟨by rfl, ?_⟩) hHeld ?_ ?_
              rotate_left
              · rintro w' ⟨s0, s1, s2, s3, s4, s5, s6, s7, s8, s9, s10, s11, s12, s13, s14, s15, s16⟩
                go_simp
                with_reducible rfl
              rotate_left
              · simp only [Act.put, setIfInBounds_toArray, set_cons_zero, set_cons_succ, i64_w, i32_w]
                rfl
              refine take_ (i := 7) (N := some 60) (v := ?_) (a' := ?_) #[true, true, true, true, false, true, true, true, false, false] rfl rfl (take_ofW HT_.out HW_.out (by kernel_rfl)) (fun _ _ _ h => h) (Or.inl ⟨by rfl, ?_⟩) hHeld ?_ ?_
              rotate_left
              · rintro w' ⟨s0, s1, s2, s3, s4, s5, s6, s7, s8, s9, s10, s11, s12, s13, s14, s15, s16⟩
                go_simp
                with_reducible rfl
              rotate_left
              · simp only [Act.put, setIfInBounds_toArray, set_cons_zero, set_cons_succ, i64_w, i32_w]
                rfl
              refine pure_ (i := 8) (N := some 61) (v := ?_) (a' := ?_) #[true, true, true, true, false, true, true, true, true, false] rfl rfl (any_of HT_.out (by kernel_rfl)) (fun _ _ _ h => h) (Or.inl ⟨by rfl, ?_⟩) ?_ ?_
              rotate_left
              · intro w'
                go_simp
                with_reducible rfl
              rotate_left
              · simp only [Act.put, setIfInBounds_toArray, set_cons_zero, set_cons_succ, i64_w, i32_w]
                rfl
              refine one_ (i := 4) (N := some 57) #[true, true, true, true, true, true, true, true, true, false] rfl rfl (one_of HT_.out (by kernel_rfl)) (by decide) (fun K hK => ?_)
              refine goes_ Try.func17 (by kernel_rfl) rfl #[.agg #[.int .i64 t163, .int .i64 t164, .int .i64 t165, .int .i64 t166], .agg #[.int .i64 t158, .int .i64 t159, .int .i64 t160, .int .i64 t161], .int .i64 (wrap64 (5 + (Go.bits .and .i64 a2 1023)))] (by rfl) rfl rfl (by (try simp only [map_toArray, map_cons, map_nil]); first | done | rfl | (simp only [length_drop, length_take]; rfl)) ?_
              with_reducible refine (cell_Cell_Room.calls k t163 t164 t165 t166 t158 t159 t160 t161 (wrap64 (5 + (Go.bits .and .i64 a2 1023))) t176 _ A47.out).mono ?_
              rintro e w114 ⟨rfl, hb⟩
              refine ⟨_, rfl, ?_⟩
              have n0_ := Aside0.mk (blk_below (g := gb146) (by (with_reducible repeat (first | refine pN ?_ _ | refine pD ?_ | refine pA ?_ _)); exact BK146.out) hb)
              have n1_ := Aside0.mk (blk_below (g := gb157) (by (with_reducible repeat (first | refine pN ?_ _ | refine pD ?_ | refine pA ?_ _)); exact BK157.out) hb)
              have n2_ := Aside0.mk (blk_below (g := gb162) (by (with_reducible repeat (first | refine pN ?_ _ | refine pD ?_ | refine pA ?_ _)); exact BK162.out) hb)
              have n3_ := Aside0.mk (blk_below (g := gb171) (by (with_reducible repeat (first | refine pN ?_ _ | refine pD ?_ | refine pA ?_ _)); exact BK171.out) hb)
              have n4_ := Aside0.mk (blk_below (g := gb172) (by (with_reducible repeat (first | refine pN ?_ _ | refine pD ?_ | refine pA ?_ _)); exact BK172.out) hb)
              have n5_ := Aside0.mk (below_step (by repeat (first | (with_reducible first | exact HB.out | apply below_alloc | apply pw_below_drewN | apply below_drew1 | refine below_set ?_ GE146.out | refine below_set ?_ GE157.out | refine below_set ?_ GE162.out | refine below_set ?_ GE171.out | refine below_set ?_ GE172.out) | exact HB.out)) hb)
              clear BK146
              clear BK157
              clear BK162
              clear BK171
              clear BK172
              clear HB
              have BK146 := n0_
              have BK157 := n1_
              have BK162 := n2_
              have BK171 := n3_
              have BK172 := n4_
              have HB := n5_
              clear n0_ n1_ n2_ n3_ n4_ n5_
              (try clear hb)
              (try clear hb2)
              (try clear hk)
              (try clear hi)
              refine hK.out _ _ ⟨(blk_cell BK171.out 0).trans rfl, (blk_cell BK171.out 1).trans rfl, (blk_cell BK171.out 2).trans rfl, (blk_cell BK171.out 3).trans rfl, (blk_cell BK162.out 0).trans rfl, (blk_cell BK162.out 1).trans rfl, (blk_cell BK162.out 2).trans rfl, (blk_cell BK162.out 3).trans rfl, (blk_cell BK157.out 0).trans rfl, (blk_cell BK157.out 1).trans rfl, (blk_cell BK157.out 2).trans rfl, (blk_cell BK157.out 3).trans rfl, (blk_cell BK157.out 4).trans rfl, (blk_cell BK157.out 5).trans rfl, (blk_cell BK157.out 6).trans rfl, (blk_cell BK157.out 7).trans rfl, (blk_cell BK157.out 8).trans rfl⟩ (fun hHeld => ?_)
              clear hK K
              refine norm_ (a' := ?_) ?_ ?_
              rotate_left
              · show Act.put _ (some 57) _ = _
                simp only [Act.put, setIfInBounds_toArray, set_cons_zero, set_cons_succ, i64_w, i32_w]
                rfl
              refine pure_ (i := 9) (N := some 62) (v := ?_) (a' := ?_) #[true, true, true, true, true, true, true, true, true, true] rfl rfl (any_of HT_.out (by kernel_rfl)) (fun _ _ _ h => h) (Or.inl ⟨by rfl, ?_⟩) ?_ ?_
              rotate_left
              · intro w'
                go_simp
                with_reducible rfl
              rotate_left
              · simp only [Act.put, setIfInBounds_toArray, set_cons_zero, set_cons_succ, i64_w, i32_w]
                rfl
              refine done_ (done_of HT_.out (by kernel_rfl)) ?_
              try go_wp2
              have n0_ := Aside0.mk (blk_drew BK146.out)
              have n1_ := Aside0.mk (blk_drew BK157.out)
              have n2_ := Aside0.mk (blk_drew BK162.out)
              have n3_ := Aside0.mk (blk_drew BK171.out)
              have n4_ := Aside0.mk (blk_drew BK172.out)
              have n5_ := Aside0.mk (below_drew1 HB.out)
              clear BK146
              clear BK157
              clear BK162
              clear BK171
              clear BK172
              clear HB
              have BK146 := n0_
              have BK157 := n1_
              have BK162 := n2_
              have BK171 := n3_
              have BK172 := n4_
              have HB := n5_
              clear n0_ n1_ n2_ n3_ n4_ n5_
              refine start_ (n := 27) (S := fun w' => w'.cell? ⟨gb171, 0, none⟩ = some (.int .i64 t163) ∧ w'.cell? ⟨gb171, 1, none⟩ = some (.int .i64 t164) ∧ w'.cell? ⟨gb171, 2, none⟩ = some (.int .i64 t165) ∧ w'.cell? ⟨gb171, 3, none⟩ = some (.int .i64 t166) ∧ w'.cell? ⟨gb162, 0, none⟩ = some (.int .i64 t158) ∧ w'.cell? ⟨gb162, 1, none⟩ = some (.int .i64 t159) ∧ w'.cell? ⟨gb162, 2, none⟩ = some (.int .i64 t160) ∧ w'.cell? ⟨gb162, 3, none⟩ = some (.int .i64 t161) ∧ w'.cell? ⟨gb157, 0, none⟩ = some (.int .i64 t148) ∧ w'.cell? ⟨gb157, 1, none⟩ = some (.int .i64 t149) ∧ w'.cell? ⟨gb157, 2, none⟩ = some (.int .i64 t150) ∧ w'.cell? ⟨gb157, 3, none⟩ = some (.int .i64 t151) ∧ w'.cell? ⟨gb157, 4, none⟩ = some (.int .i64 t152) ∧ w'.cell? ⟨gb157, 5, none⟩ = some (.int .i64 t153) ∧ w'.cell? ⟨gb157, 6, none⟩ = some (.int .i64 t154) ∧ w'.cell? ⟨gb157, 7, none⟩ = some (.int .i64 t155) ∧ w'.cell? ⟨gb157, 8, none⟩ = some (.bool t156)) (ds := []) #[false, false, false, false, false, false, false, false, false, false, false, false, false, false, false, false, false, false, false, false, false, false, false, false, false, false, false] (by kernel_rfl) rfl rfl ⟨(blk_cell BK171.out 0).trans rfl, (blk_cell BK171.out 1).trans rfl, (blk_cell BK171.out 2).trans rfl, (blk_cell BK171.out 3).trans rfl, (blk_cell BK162.out 0).trans rfl, (blk_cell BK162.out 1).trans rfl, (blk_cell BK162.out 2).trans rfl, (blk_cell BK162.out 3).trans rfl, (blk_cell BK157.out 0).trans rfl, (blk_cell BK157.out 1).trans rfl, (blk_cell BK157.out 2).trans rfl, (blk_cell BK157.out 3).trans rfl, (blk_cell BK157.out 4).trans rfl, (blk_cell BK157.out 5).trans rfl, (blk_cell BK157.out 6).trans rfl, (blk_cell BK157.out 7).trans rfl, (blk_cell BK157.out 8).trans rfl⟩ (fun hHeld => ?_); refine with_tabW weighbridgelaw09_CellCarry.tab13 weighbridgelaw09_CellCarry.bits13 (fun HT_ HW_ => ?_)
              generalize w114.drew = w115 at BK146 BK157 BK162 BK171 BK172 HB hHeld ⊢
              refine pure_ (i := 0) (N := some 63) (v := ?_) (a' := ?_) #[true, false, false, false, false, false, false, false, false, false, false, false, false, false, false, false, false, false, false, false, false, false, false, false, false, false, false] rfl rfl (any_of HT_.out (by kernel_rfl)) (fun _ _ _ h => h) (Or.inl ⟨by rfl, ?_⟩) ?_ ?_
              rotate_left
              · intro w'
                go_simp
                with_reducible rfl
              rotate_left
              · simp only [Act.put, setIfInBounds_toArray, set_cons_zero, set_cons_succ, i64_w, i32_w]
                rfl
              refine pure_ (i := 1) (N := some 64) (v := ?_) (a' := ?_) #[true, true, false, false, false, false, false, false, false, false, false, false, false, false, false, false, false, false, false, false, false, false, false, false, false, false, false] rfl rfl (any_of HT_.out (by kernel_rfl)) (fun _ _ _ h => h) (Or.inl ⟨by rfl, ?_⟩) ?_ ?_
              rotate_left
              · intro w'
                go_simp
                with_reducible rfl
              rotate_left
              · simp only [Act.put, setIfInBounds_toArray, set_cons_zero, set_cons_succ, i64_w, i32_w]
                rfl
              refine pure_ (i := 2) (N := some 65) (v := ?_) (a' := ?_) #[true, true, true, false, false, false, false, false, false, false, false, false, false, false, false, false, false, false, false, false, false, false, false, false, false, false, false] rfl rfl (any_of HT_.out (by kernel_rfl)) (fun _ _ _ h => h) (Or.inl ⟨by rfl, ?_⟩) ?_ ?_
              rotate_left
              · intro w'
                go_simp
                with_reducible rfl
              rotate_left
              · simp only [Act.put, setIfInBounds_toArray, set_cons_zero, set_cons_succ, i64_w, i32_w]
                rfl
              refine pure_ (i := 5) (N := some 68) (v := ?_) (a' := ?_) #[true, true, true, false, false, true, false, false, false, false, false, false, false, false, false, false, false, false, false, false, false, false, false, false, false, false, false] rfl rfl (any_of HT_.out (by kernel_rfl)) (fun _ _ _ h => h) (Or.inl ⟨by rfl, ?_⟩) ?_ ?_
              rotate_left
              · intro w'
                go_simp
                with_reducible rfl
              rotate_left
              · simp only [Act.put, setIfInBounds_toArray, set_cons_zero, set_cons_succ, i64_w, i32_w]
                rfl
              refine pure_ (i := 6) (N := some 69) (v := ?_) (a' := ?_) #[true, true, true, false, false, true, true, false, false, false, false, false, false, false, false, false, false, false, false, false, false, false, false, false, false, false, false] rfl rfl (any_of HT_.out (by kernel_rfl)) (fun _ _ _ h => h) (Or.inl ⟨by rfl, ?_⟩) ?_ ?_
              rotate_left
              · intro w'
                go_simp
                with_reducible rfl
              rotate_left
              · simp only [Act.put, setIfInBounds_toArray, set_cons_zero, set_cons_succ, i64_w, i32_w]
                rfl
              refine take_ (i := 3) (N := some 66) (v := ?_) (a' := ?_) #[true, true, true, true, false, true, true, false, false, false, false, false, false, false, false, false, false, false, false, false, false, false, false, false, false, false, false] rfl rfl (take_ofW HT_.out HW_.out (by kernel_rfl)) (fun _ _ _ h => h) (Or.inl ⟨by rfl, ?_⟩) hHeld ?_ ?_
              rotate_left
              · rintro w' ⟨s0, s1, s2, s3, s4, s5, s6, s7, s8, s9, s10, s11, s12, s13, s14, s15, s16⟩
                go_simp
                with_reducible rfl
              rotate_left
              · simp only [Act.put, setIfInBounds_toArray, set_cons_zero, set_cons_succ, i64_w, i32_w]
                rfl
              refine take_ (i := 4) (N := some 67) (v := ?_) (a' := ?_) #[true, true, true, true, true, true, true, false, false, false, false, false, false, false, false, false, false, false, false, false, false, false, false, false, false, false, false] rfl rfl (take_ofW HT_.out HW_.out (by kernel_rfl)) (fun _ _ _ h => h) (Or.inl ⟨by rfl, ?_⟩) hHeld ?_ ?_
              rotate_left
              · rintro w' ⟨s0, s1, s2, s3, s4, s5, s6, s7, s8, s9, s10, s11, s12, s13, s14, s15, s16⟩
                go_simp
                with_reducible rfl
              rotate_left
              · simp only [Act.put, setIfInBounds_toArray, set_cons_zero, set_cons_succ, i64_w, i32_w]
                rfl
              refine one_ (i := 7) (N := some 70) #[true, true, true, true, true, true, true, true, false, false, false, false, false, false, false, false, false, false, false, false, false, false, false, false, false, false, false] rfl rfl (one_of HT_.out (by kernel_rfl)) (by decide) (fun K hK => ?_)
              refine goes_ Try.func19 (by kernel_rfl) rfl #[.agg #[.int .i64 t163, .int .i64 t164, .int .i64 t165, .int .i64 t166], .agg #[.int .i64 t158, .int .i64 t159, .int .i64 t160, .int .i64 t161], .int .i64 (wrap64 (5 + (Go.bits .and .i64 a2 1023))), .int .i64 1] (by rfl) rfl rfl (by (try simp only [map_toArray, map_cons, map_nil]); first | done | rfl | (simp only [length_drop, length_take]; rfl)) ?_
              with_reducible refine (cell_Cell_Wait.calls t163 t164 t165 t166 t158 t159 t160 t161 (wrap64 (5 + (Go.bits .and .i64 a2 1023))) 1 t177 _ A51.out).mono ?_
              rintro e w116 ⟨rfl, hb⟩
              refine ⟨_, rfl, ?_⟩
              have n0_ := Aside0.mk (blk_below (g := gb146) (by (with_reducible repeat (first | refine pN ?_ _ | refine pD ?_ | refine pA ?_ _)); exact BK146.out) hb)
              have n1_ := Aside0.mk (blk_below (g := gb157) (by (with_reducible repeat (first | refine pN ?_ _ | refine pD ?_ | refine pA ?_ _)); exact BK157.out) hb)
              have n2_ := Aside0.mk (blk_below (g := gb162) (by (with_reducible repeat (first | refine pN ?_ _ | refine pD ?_ | refine pA ?_ _)); exact BK162.out) hb)
              have n3_ := Aside0.mk (blk_below (g := gb171) (by (with_reducible repeat (first | refine pN ?_ _ | refine pD ?_ | refine pA ?_ _)); exact BK171.out) hb)
              have n4_ := Aside0.mk (blk_below (g := gb172) (by (with_reducible repeat (first | refine pN ?_ _ | refine pD ?_ | refine pA ?_ _)); exact BK172.out) hb)
              have n5_ := Aside0.mk (below_step (by repeat (first | (with_reducible first | exact HB.out | apply below_alloc | apply pw_below_drewN | apply below_drew1 | refine below_set ?_ GE146.out | refine below_set ?_ GE157.out | refine below_set ?_ GE162.out | refine below_set ?_ GE171.out | refine below_set ?_ GE172.out) | exact HB.out)) hb)
              clear BK146
              clear BK157
              clear BK162
              clear BK171
              clear BK172
              clear HB
              have BK146 := n0_
              have BK157 := n1_
              have BK162 := n2_
              have BK171 := n3_
              have BK172 := n4_
              have HB := n5_
              clear n0_ n1_ n2_ n3_ n4_ n5_
              (try clear hb)
              (try clear hb2)
              (try clear hk)
              (try clear hi)
              refine hK.out _ _ ⟨(blk_cell BK171.out 0).trans rfl, (blk_cell BK171.out 1).trans rfl, (blk_cell BK171.out 2).trans rfl, (blk_cell BK171.out 3).trans rfl, (blk_cell BK162.out 0).trans rfl, (blk_cell BK162.out 1).trans rfl, (blk_cell BK162.out 2).trans rfl, (blk_cell BK162.out 3).trans rfl, (blk_cell BK157.out 0).trans rfl, (blk_cell BK157.out 1).trans rfl, (blk_cell BK157.out 2).trans rfl, (blk_cell BK157.out 3).trans rfl, (blk_cell BK157.out 4).trans rfl, (blk_cell BK157.out 5).trans rfl, (blk_cell BK157.out 6).trans rfl, (blk_cell BK157.out 7).trans rfl, (blk_cell BK157.out 8).trans rfl⟩ (fun hHeld => ?_)
              clear hK K
              refine norm_ (a' := ?_) ?_ ?_
              rotate_left
              · show Act.put _ (some 70) _ = _
                simp only [Act.put, setIfInBounds_toArray, set_cons_zero, set_cons_succ, i64_w, i32_w]
                rfl
              refine pure_ (i := 8) (N := some 71) (v := ?_) (a' := ?_) #[true, true, true, true, true, true, true, true, true, false, false, false, false, false, false, false, false, false, false, false, false, false, false, false, false, false, false] rfl rfl (any_of HT_.out (by kernel_rfl)) (fun _ _ _ h => h) (Or.inl ⟨by rfl, ?_⟩) ?_ ?_
              rotate_left
              · intro w'
                go_simp
                with_reducible rfl
              rotate_left
              · simp only [Act.put, setIfInBounds_toArray, set_cons_zero, set_cons_succ, i64_w, i32_w]
                rfl
              refine pure_ (i := 9) (N := some 72) (v := ?_) (a' := ?_) #[true, true, true, true, true, true, true, true, true, true, false, false, false, false, false, false, false, false, false, false, false, false, false, false, false, false, false] rfl rfl (any_of HT_.out (by kernel_rfl)) (fun _ _ _ h => h) (Or.inl ⟨by rfl, ?_⟩) ?_ ?_
              rotate_left
              · intro w'
                go_simp
                with_reducible rfl
              rotate_left
              · simp only [Act.put, setIfInBounds_toArray, set_cons_zero, set_cons_succ, i64_w, i32_w]
                rfl
              refine pure_ (i := 10) (N := some 73) (v := ?_) (a' := ?_) #[true, true, true, true, true, true, true, true, true, true, true, false, false, false, false, false, false, false, false, false, false, false, false, false, false, false, false] rfl rfl (any_of HT_.out (by kernel_rfl)) (fun _ _ _ h => h) (Or.inl ⟨by rfl, ?_⟩) ?_ ?_
              rotate_left
              · intro w'
                go_simp
                with_reducible rfl
              rotate_left
              · simp only [Act.put, setIfInBounds_toArray, set_cons_zero, set_cons_succ, i64_w, i32_w]
                rfl
              refine pure_ (i := 11) (N := some 74) (v := ?_) (a' := ?_) #[true, true, true, true, true, true, true, true, true, true, true, true, false, false, false, false, false, false, false, false, false, false, false, false, false, false, false] rfl rfl (any_of HT_.out (by kernel_rfl)) (fun _ _ _ h => h) (Or.inl ⟨by rfl, ?_⟩) ?_ ?_
              rotate_left
              · intro w'
                go_simp
                with_reducible rfl
              rotate_left
              · simp only [Act.put, setIfInBounds_toArray, set_cons_zero, set_cons_succ, i64_w, i32_w]
                rfl
              refine pure_ (i := 12) (N := some 75) (v := ?_) (a' := ?_) #[true, true, true, true, true, true, true, true, true, true, true, true, true, false, false, false, false, false, false, false, false, false, false, false, false, false, false] rfl rfl (any_of HT_.out (by kernel_rfl)) (fun _ _ _ h => h) (Or.inl ⟨by rfl, ?_⟩) ?_ ?_
              rotate_left
              · intro w'
                go_simp
                with_reducible rfl
              rotate_left
              · simp only [Act.put, setIfInBounds_toArray, set_cons_zero, set_cons_succ, i64_w, i32_w]
                rfl
              refine pure_ (i := 13) (N := some 76) (v := ?_) (a' := ?_) #[true, true, true, true, true, true, true, true, true, true, true, true, true, true, false, false, false, false, false, false, false, false, false, false, false, false, false] rfl rfl (any_of HT_.out (by kernel_rfl)) (fun _ _ _ h => h) (Or.inl ⟨by rfl, ?_⟩) ?_ ?_
              rotate_left
              · intro w'
                go_simp
                with_reducible rfl
              rotate_left
              · simp only [Act.put, setIfInBounds_toArray, set_cons_zero, set_cons_succ, i64_w, i32_w]
                rfl
              refine pure_ (i := 16) (N := some 79) (v := ?_) (a' := ?_) #[true, true, true, true, true, true, true, true, true, true, true, true, true, true, false, false, true, false, false, false, false, false, false, false, false, false, false] rfl rfl (any_of HT_.out (by kernel_rfl)) (fun _ _ _ h => h) (Or.inl ⟨by rfl, ?_⟩) ?_ ?_
              rotate_left
              · intro w'
                go_simp
                with_reducible rfl
              rotate_left
              · simp only [Act.put, setIfInBounds_toArray, set_cons_zero, set_cons_succ, i64_w, i32_w]
                rfl
              refine pure_ (i := 17) (N := some 80) (v := ?_) (a' := ?_) #[true, true, true, true, true, true, true, true, true, true, true, true, true, true, false, false, true, true, false, false, false, false, false, false, false, false, false] rfl rfl (any_of HT_.out (by kernel_rfl)) (fun _ _ _ h => h) (Or.inl ⟨by rfl, ?_⟩) ?_ ?_
              rotate_left
              · intro w'
                go_simp
                with_reducible rfl
              rotate_left
              · simp only [Act.put, setIfInBounds_toArray, set_cons_zero, set_cons_succ, i64_w, i32_w]
                rfl
              refine pure_ (i := 19) (N := some 82) (v := ?_) (a' := ?_) #[true, true, true, true, true, true, true, true, true, true, true, true, true, true, false, false, true, true, false, true, false, false, false, false, false, false, false] rfl rfl (any_of HT_.out (by kernel_rfl)) (fun _ _ _ h => h) (Or.inl ⟨by rfl, ?_⟩) ?_ ?_
              rotate_left
              · intro w'
                go_simp
                with_reducible rfl
              rotate_left
              · simp only [Act.put, setIfInBounds_toArray, set_cons_zero, set_cons_succ, i64_w, i32_w]
                rfl
              refine pure_ (i := 21) (N := some 84) (v := ?_) (a' := ?_) #[true, true, true, true, true, true, true, true, true, true, true, true, true, true, false, false, true, true, false, true, false, true, false, false, false, false, false] rfl rfl (any_of HT_.out (by kernel_rfl)) (fun _ _ _ h => h) (Or.inl ⟨by rfl, ?_⟩) ?_ ?_
              rotate_left
              · intro w'
                go_simp
                with_reducible rfl
              rotate_left
              · simp only [Act.put, setIfInBounds_toArray, set_cons_zero, set_cons_succ, i64_w, i32_w]
                rfl
              refine take_ (i := 14) (N := some 77) (v := ?_) (a' := ?_) #[true, true, true, true, true, true, true, true, true, true, true, true, true, true, true, false, true, true, false, true, false, true, false, false, false, false, false] rfl rfl (take_ofW HT_.out HW_.out (by kernel_rfl)) (fun _ _ _ h => h) (Or.inl ⟨by rfl, ?_⟩) hHeld ?_ ?_
              rotate_left
              · rintro w' ⟨s0, s1, s2, s3, s4, s5, s6, s7, s8, s9, s10, s11, s12, s13, s14, s15, s16⟩
                go_simp
                with_reducible rfl
              rotate_left
              · simp only [Act.put, setIfInBounds_toArray, set_cons_zero, set_cons_succ, i64_w, i32_w]
                rfl
              refine take_ (i := 15) (N := some 78) (v := ?_) (a' := ?_) #[true, true, true, true, true, true, true, true, true, true, true, true, true, true, true, true, true, true, false, true, false, true, false, false, false, false, false] rfl rfl (take_ofW HT_.out HW_.out (by kernel_rfl)) (fun _ _ _ h => h) (Or.inl ⟨by rfl, ?_⟩) hHeld ?_ ?_
              rotate_left
              · rintro w' ⟨s0, s1, s2, s3, s4, s5, s6, s7, s8, s9, s10, s11, s12, s13, s14, s15, s16⟩
                go_simp
                with_reducible rfl
              rotate_left
              · simp only [Act.put, setIfInBounds_toArray, set_cons_zero, set_cons_succ, i64_w, i32_w]
                rfl
              refine take_ (i := 20) (N := some 83) (v := ?_) (a' := ?_) #[true, true, true, true, true, true, true, true, true, true, true, true, true, true, true, true, true, true, false, true, true, true, false, false, false, false, false] rfl rfl (take_ofW HT_.out HW_.out (by kernel_rfl)) (fun _ _ _ h => h) (Or.inl ⟨by rfl, ?_⟩) hHeld ?_ ?_
              rotate_left
              · rintro w' ⟨s0, s1, s2, s3, s4, s5, s6, s7, s8, s9, s10, s11, s12, s13, s14, s15, s16⟩
                go_simp
                with_reducible rfl
              rotate_left
              · simp only [Act.put, setIfInBounds_toArray, set_cons_zero, set_cons_succ, i64_w, i32_w]
                rfl
              refine pure_ (i := 22) (N := some 85) (v := ?_) (a' := ?_) #[true, true, true, true, true, true, true, true, true, true, true, true, true, true, true, true, true, true, false, true, true, true, true, false, false, false, false] rfl rfl (any_of HT_.out (by kernel_rfl)) (fun _ _ _ h => h) (Or.inl ⟨by rfl, ?_⟩) ?_ ?_
              rotate_left
              · intro w'
                go_simp
                with_reducible rfl
              rotate_left
              · simp only [Act.put, setIfInBounds_toArray, set_cons_zero, set_cons_succ, i64_w, i32_w]
                rfl
              refine one_ (i := 18) (N := some 81) #[true, true, true, true, true, true, true, true, true, true, true, true, true, true, true, true, true, true, true, true, true, true, true, false, false, false, false] rfl rfl (one_of HT_.out (by kernel_rfl)) (by decide) (fun K hK => ?_)
              refine goes_ Try.func19 (by kernel_rfl) rfl #[.agg #[.int .i64 t163, .int .i64 t164, .int .i64 t165, .int .i64 t166], .agg #[.int .i64 t158, .int .i64 t159, .int .i64 t160, .int .i64 t161], .int .i64 (wrap64 (5 + (Go.bits .and .i64 a2 1023))), .int .i64 1] (by rfl) rfl rfl (by (try simp only [map_toArray, map_cons, map_nil]); first | done | rfl | (simp only [length_drop, length_take]; rfl)) ?_
              with_reducible refine (cell_Cell_Wait.calls t163 t164 t165 t166 t158 t159 t160 t161 (wrap64 (5 + (Go.bits .and .i64 a2 1023))) 1 t177 _ A85.out).mono ?_
              rintro e w117 ⟨rfl, hb⟩
              refine ⟨_, rfl, ?_⟩
              have n0_ := Aside0.mk (blk_below (g := gb146) (by (with_reducible repeat (first | refine pN ?_ _ | refine pD ?_ | refine pA ?_ _)); exact BK146.out) hb)
              have n1_ := Aside0.mk (blk_below (g := gb157) (by (with_reducible repeat (first | refine pN ?_ _ | refine pD ?_ | refine pA ?_ _)); exact BK157.out) hb)
              have n2_ := Aside0.mk (blk_below (g := gb162) (by (with_reducible repeat (first | refine pN ?_ _ | refine pD ?_ | refine pA ?_ _)); exact BK162.out) hb)
              have n3_ := Aside0.mk (blk_below (g := gb171) (by (with_reducible repeat (first | refine pN ?_ _ | refine pD ?_ | refine pA ?_ _)); exact BK171.out) hb)
              have n4_ := Aside0.mk (blk_below (g := gb172) (by (with_reducible repeat (first | refine pN ?_ _ | refine pD ?_ | refine pA ?_ _)); exact BK172.out) hb)
              have n5_ := Aside0.mk (below_step (by repeat (first | (with_reducible first | exact HB.out | apply below_alloc | apply pw_below_drewN | apply below_drew1 | refine below_set ?_ GE146.out | refine below_set ?_ GE157.out | refine below_set ?_ GE162.out | refine below_set ?_ GE171.out | refine below_set ?_ GE172.out) | exact HB.out)) hb)
              clear BK146
              clear BK157
              clear BK162
              clear BK171
              clear BK172
              clear HB
              have BK146 := n0_
              have BK157 := n1_
              have BK162 := n2_
              have BK171 := n3_
              have BK172 := n4_
              have HB := n5_
              clear n0_ n1_ n2_ n3_ n4_ n5_
              (try clear hb)
              (try clear hb2)
              (try clear hk)
              (try clear hi)
              refine hK.out _ _ ⟨(blk_cell BK171.out 0).trans rfl, (blk_cell BK171.out 1).trans rfl, (blk_cell BK171.out 2).trans rfl, (blk_cell BK171.out 3).trans rfl, (blk_cell BK162.out 0).trans rfl, (blk_cell BK162.out 1).trans rfl, (blk_cell BK162.out 2).trans rfl, (blk_cell BK162.out 3).trans rfl, (blk_cell BK157.out 0).trans rfl, (blk_cell BK157.out 1).trans rfl, (blk_cell BK157.out 2).trans rfl, (blk_cell BK157.out 3).trans rfl, (blk_cell BK157.out 4).trans rfl, (blk_cell BK157.out 5).trans rfl, (blk_cell BK157.out 6).trans rfl, (blk_cell BK157.out 7).trans rfl, (blk_cell BK157.out 8).trans rfl⟩ (fun hHeld => ?_)
              clear hK K
              refine norm_ (a' := ?_) ?_ ?_
              rotate_left
              · show Act.put _ (some 81) _ = _
                simp only [Act.put, setIfInBounds_toArray, set_cons_zero, set_cons_succ, i64_w, i32_w]
                rfl
              refine pure_ (i := 23) (N := some 86) (v := ?_) (a' := ?_) #[true, true, true, true, true, true, true, true, true, true, true, true, true, true, true, true, true, true, true, true, true, true, true, true, false, false, false] rfl rfl (any_of HT_.out (by kernel_rfl)) (fun _ _ _ h => h) (Or.inl ⟨by rfl, ?_⟩) ?_ ?_
              rotate_left
              · intro w'
                go_simp
                with_reducible rfl
              rotate_left
              · simp only [Act.put, setIfInBounds_toArray, set_cons_zero, set_cons_succ, i64_w, i32_w]
                rfl
              refine pure_ (i := 24) (N := some 87) (v := ?_) (a' := ?_) #[true, true, true, true, true, true, true, true, true, true, true, true, true, true, true, true, true, true, true, true, true, true, true, true, true, false, false] rfl rfl (any_of HT_.out (by kernel_rfl)) (fun _ _ _ h => h) (Or.inl ⟨by rfl, ?_⟩) ?_ ?_
              rotate_left
              · intro w'
                go_simp
                with_reducible rfl
              rotate_left
              · simp only [Act.put, setIfInBounds_toArray, set_cons_zero, set_cons_succ, i64_w, i32_w]
                rfl
              refine pure_ (i := 25) (N := some 88) (v := ?_) (a' := ?_) #[true, true, true, true, true, true, true, true, true, true, true, true, true, true, true, true, true, true, true, true, true, true, true, true, true, true, false] rfl rfl (any_of HT_.out (by kernel_rfl)) (fun _ _ _ h => h) (Or.inl ⟨by rfl, ?_⟩) ?_ ?_
              rotate_left
              · intro w'
                go_simp
                with_reducible rfl
              rotate_left
              · simp only [Act.put, setIfInBounds_toArray, set_cons_zero, set_cons_succ, i64_w, i32_w]
                rfl
              refine pure_ (i := 26) (N := some 6) (v := ?_) (a' := ?_) #[true, true, true, true, true, true, true, true, true, true, true, true, true, true, true, true, true, true, true, true, true, true, true, true, true, true, true] rfl rfl (any_of HT_.out (by kernel_rfl)) (fun _ _ _ h => h) (Or.inl ⟨by rfl, ?_⟩) ?_ ?_
              rotate_left
              · intro w'
                go_simp
                with_reducible rfl
              rotate_left
              · simp only [Act.put, setIfInBounds_toArray, set_cons_zero, set_cons_succ, i64_w, i32_w]
                rfl
              refine done_ (done_of HT_.out (by kernel_rfl)) ?_
              try go_wp2
              go_ret
              exact ⟨by first | rfl | (simp [errW_none, errW_some] <;> rfl) | (simp only [← hji46, ← hji48]; first | rfl | (simp [errW_none, errW_some] <;> rfl)) | (simp [*, errW_none, errW_some] <;> rfl), by repeat (first | (with_reducible first | exact HB.out | apply below_alloc | apply pw_below_drewN | apply below_drew1 | refine below_set ?_ GE146.out | refine below_set ?_ GE157.out | refine below_set ?_ GE162.out | refine below_set ?_ GE171.out | refine below_set ?_ GE172.out) | exact HB.out)⟩
            · rw [if_neg c84] at H
              have c84b0 : ((ji46) == 0) = false := beq_eq_false_iff_ne.mpr c84
              have c84b1 : ((ji46) != 0) = true := bne_iff_ne.mpr c84
              exact absurd (Option.some.inj H) (by rw [hr_.out]; decide)
        · rw [if_neg c50] at H
          have c50b0 : decide (1 ≤ (ji46)) = false := decide_eq_false c50
          clear c50
          by_cases c118 : (ji46) = 0
          · rw [if_pos c118] at H
            have c118b0 : ((ji46) == 0) = true := beq_iff_eq.mpr c118
            have c118b1 : ((ji46) != 0) = false := bne_eq_false_iff_eq.mpr c118
            clear c118
            replace H := Option.bind_eq_some_iff.mp H
            obtain ⟨t179, A1190, H⟩ := H
            replace H : (some (t179 == (wrap64 (t149 - (Go.bits .and .i64 a2 1023))))) = some r := H
            have A119 := Aside0.mk A1190
            clear A1190
            obtain rfl := Option.some.inj H
            go_enter Try.func7, Try.ntmps7
            try go_wp2_with (first | ((with_reducible refine gate_dst (N := 3) rfl ?_); refine box_event ?hg (N := 3) ?hd (cs := #[.int .i64 a0_0, .int .i64 a0_1, .int .i64 a0_2]) (t := 23) ?hr ?_; (case hd => rfl); (case hg => rfl); (case hr => first | (go_simp; done) | (go_simp; rfl)); intro gb146 hg w120 hbox hb; have n0_ := Aside0.mk (below_step (by repeat (first | (with_reducible first | exact HB.out | apply below_alloc | apply pw_below_drewN | apply below_drew1) | exact HB.out)) hb); have n1_ := Aside0.mk (hbox); have n2_ := Aside0.mk ((by rw [hg]; exact (below_size (by repeat (first | (with_reducible first | exact HB.out | apply below_alloc | apply pw_below_drewN | apply below_drew1) | exact HB.out))) : w.heap.size ≤ gb146)); have n3_ := n2_; clear HB; have HB := n0_; have BK146 := n1_; have GW146 := n2_; have GE146 := n3_; clear n0_ n1_ n2_ n3_; clear hb hbox hg) | ((with_reducible refine gate_callee (f := 11) rfl ?_); refine goesL_ (some 12) rfl rfl Try.func11 (by kernel_rfl) rfl #[] rfl (by (try simp only [map_toArray, map_cons, map_nil]); first | done | rfl | (simp only [length_drop, length_take]; rfl)) ?_; (with_reducible refine (weighbridgelaw09_fit.calls k  true _ A4.out).mono ?_); rintro e w121 ⟨rfl, hb⟩; refine ⟨_, rfl, ?_⟩; have n0_ := Aside0.mk (blk_below (g := gb146) (by (with_reducible repeat (first | refine pN ?_ _ | refine pD ?_ | refine pA ?_ _)); exact BK146.out) hb); have n1_ := Aside0.mk (below_step (by repeat (first | (with_reducible first | exact HB.out | apply below_alloc | apply pw_below_drewN | apply below_drew1 | refine below_set ?_ GE146.out) | exact HB.out)) hb); clear BK146; clear HB; have BK146 := n0_; have HB := n1_; clear n0_ n1_; (try clear hb); (try clear hb2); (try clear hk); (try clear hi); have hcz122_0 : w121.cell? ⟨gb146, 0, none⟩ = some (.int .i64 a0_0) := (blk_cell BK146.out 0).trans rfl; have hcz122_1 : w121.cell? ⟨gb146, 1, none⟩ = some (.int .i64 a0_1) := (blk_cell BK146.out 1).trans rfl; have hcz122_2 : w121.cell? ⟨gb146, 2, none⟩ = some (.int .i64 a0_2) := (blk_cell BK146.out 2).trans rfl; have hfz122_0 := blk_frozen BK146.out 0; have hfz122_1 := blk_frozen BK146.out 1; have hfz122_2 := blk_frozen BK146.out 2) | ((with_reducible refine gate_callee (f := 12) rfl ?_); refine goesL_ (some 15) rfl rfl Try.func12 (by kernel_rfl) rfl #[.agg #[.int .i64 a0_0, .int .i64 a0_1, .int .i64 a0_2]] rfl (by (try simp only [map_toArray, map_cons, map_nil]); first | done | rfl | (simp only [length_drop, length_take]; rfl)) ?_; (with_reducible refine (weighbridgelaw09_Plan_Rule.calls a0_0 a0_1 a0_2 t148 t149 t150 t151 t152 t153 t154 t155 t156 _ A6.out).mono ?_); rintro e w123 ⟨rfl, hb⟩; refine ⟨_, rfl, ?_⟩; have n0_ := Aside0.mk (blk_below (g := gb146) (by (with_reducible repeat (first | refine pN ?_ _ | refine pD ?_ | refine pA ?_ _)); exact BK146.out) hb); have n1_ := Aside0.mk (below_step (by repeat (first | (with_reducible first | exact HB.out | apply below_alloc | apply pw_below_drewN | apply below_drew1 | refine below_set ?_ GE146.out) | exact HB.out)) hb); clear BK146; clear HB; have BK146 := n0_; have HB := n1_; clear n0_ n1_; (try clear hb); (try clear hb2); (try clear hk); (try clear hi)) | ((with_reducible refine gate_dst (N := 7) rfl ?_); refine box_event ?hg (N := 7) ?hd (cs := #[.int .i64 0, .int .i64 0, .int .i64 0, .int .i64 0, .int .i64 0, .int .i64 0, .int .i64 0, .int .i64 0, .bool false]) (t := 28) ?hr ?_; (case hd => rfl); (case hg => rfl); (case hr => first | (go_simp; done) | (go_simp; rfl)); intro gb157 hg w124 hbox hb; have n0_ := Aside0.mk (blk_below (g := gb146) (by (with_reducible repeat (first | refine pN ?_ _ | refine pD ?_ | refine pA ?_ _)); exact BK146.out) hb); have n1_ := Aside0.mk (below_step (by repeat (first | (with_reducible first | exact HB.out | apply below_alloc | apply pw_below_drewN | apply below_drew1 | refine below_set ?_ GE146.out) | exact HB.out)) hb); have n2_ := Aside0.mk (hbox); have n3_ := Aside0.mk ((by rw [hg]; exact (below_size (by repeat (first | (with_reducible first | exact HB.out | apply below_alloc | apply pw_below_drewN | apply below_drew1 | refine below_set ?_ GE146.out) | exact HB.out))) : w.heap.size ≤ gb157)); have n4_ := n3_; have n5_ := Aside0.mk ((by rw [hg]; exact Nat.ne_of_lt (blk_lt (g := gb146) (by (with_reducible repeat (first | refine pN ?_ _ | refine pD ?_ | refine pA ?_ _)); exact BK146.out)) : gb146 ≠ gb157)); have n6_ := Aside0.mk n5_.out.symm; clear BK146; clear HB; have BK146 := n0_; have HB := n1_; have BK157 := n2_; have GW157 := n3_; have GE157 := n4_; have NB146_157 := n5_; have NB157_146 := n6_; clear n0_ n1_ n2_ n3_ n4_ n5_ n6_; clear hb hbox hg; have hnb125 := NB157_146.out; have hnc125 := NB146_157.out; have hcz126_0 : w124.cell? ⟨gb157, 0, none⟩ = some (.int .i64 0) := (blk_cell BK157.out 0).trans rfl; have hcz126_1 : w124.cell? ⟨gb157, 1, none⟩ = some (.int .i64 0) := (blk_cell BK157.out 1).trans rfl; have hcz126_2 : w124.cell? ⟨gb157, 2, none⟩ = some (.int .i64 0) := (blk_cell BK157.out 2).trans rfl; have hcz126_3 : w124.cell? ⟨gb157, 3, none⟩ = some (.int .i64 0) := (blk_cell BK157.out 3).trans rfl; have hcz126_4 : w124.cell? ⟨gb157, 4, none⟩ = some (.int .i64 0) := (blk_cell BK157.out 4).trans rfl; have hcz126_5 : w124.cell? ⟨gb157, 5, none⟩ = some (.int .i64 0) := (blk_cell BK157.out 5).trans rfl; have hcz126_6 : w124.cell? ⟨gb157, 6, none⟩ = some (.int .i64 0) := (blk_cell BK157.out 6).trans rfl; have hcz126_7 : w124.cell? ⟨gb157, 7, none⟩ = some (.int .i64 0) := (blk_cell BK157.out 7).trans rfl; have hcz126_8 : w124.cell? ⟨gb157, 8, none⟩ = some (.bool false) := (blk_cell BK157.out 8).trans rfl; have hfz126_0 := blk_frozen BK157.out 0; have hfz126_1 := blk_frozen BK157.out 1; have hfz126_2 := blk_frozen BK157.out 2; have hfz126_3 := blk_frozen BK157.out 3; have hfz126_4 := blk_frozen BK157.out 4; have hfz126_5 := blk_frozen BK157.out 5; have hfz126_6 := blk_frozen BK157.out 6; have hfz126_7 := blk_frozen BK157.out 7; have hfz126_8 := blk_frozen BK157.out 8) | ((with_reducible refine gate_callee (f := 13) rfl ?_); refine goesL_ (some 17) rfl rfl Try.func13 (by kernel_rfl) rfl #[.agg #[.int .i64 t148, .int .i64 t149, .int .i64 t150, .int .i64 t151, .int .i64 t152, .int .i64 t153, .int .i64 t154, .int .i64 t155, .bool t156]] rfl (by (try simp only [map_toArray, map_cons, map_nil]); first | done | rfl | (simp only [length_drop, length_take]; rfl)) ?_; (with_reducible refine (cell_Of.calls k t148 t149 t150 t151 t152 t153 t154 t155 t156 t158 t159 t160 t161 _ A7.out).mono ?_); rintro e w127 ⟨rfl, hb⟩; refine ⟨_, rfl, ?_⟩; have n0_ := Aside0.mk (blk_below (g := gb146) (o := .cells #[.int .i64 a0_0, .int .i64 a0_1, .int .i64 a0_2] 23 (0, 0)) (by (with_reducible repeat (first | refine pN ?_ _ | refine pD ?_ | refine pA ?_ _)); refine blk_far ?_ NB146_157.out _; (with_reducible repeat (first | refine pN ?_ _ | refine pD ?_ | refine pA ?_ _)); refine blk_far ?_ NB146_157.out _; (with_reducible repeat (first | refine pN ?_ _ | refine pD ?_ | refine pA ?_ _)); refine blk_far ?_ NB146_157.out _; (with_reducible repeat (first | refine pN ?_ _ | refine pD ?_ | refine pA ?_ _)); refine blk_far ?_ NB146_157.out _; (with_reducible repeat (first | refine pN ?_ _ | refine pD ?_ | refine pA ?_ _)); refine blk_far ?_ NB146_157.out _; (with_reducible repeat (first | refine pN ?_ _ | refine pD ?_ | refine pA ?_ _)); refine blk_far ?_ NB146_157.out _; (with_reducible repeat (first | refine pN ?_ _ | refine pD ?_ | refine pA ?_ _)); refine blk_far ?_ NB146_157.out _; (with_reducible repeat (first | refine pN ?_ _ | refine pD ?_ | refine pA ?_ _)); refine blk_far ?_ NB146_157.out _; (with_reducible repeat (first | refine pN ?_ _ | refine pD ?_ | refine pA ?_ _)); refine blk_far ?_ NB146_157.out _; (with_reducible repeat (first | refine pN ?_ _ | refine pD ?_ | refine pA ?_ _)); exact BK146.out) hb); have n1_ := Aside0.mk (blk_below (g := gb157) (o := .cells #[.int .i64 t148, .int .i64 t149, .int .i64 t150, .int .i64 t151, .int .i64 t152, .int .i64 t153, .int .i64 t154, .int .i64 t155, .bool t156] 28 (0, 0)) (by (with_reducible repeat (first | refine pN ?_ _ | refine pD ?_ | refine pA ?_ _)); refine blk_put (cs := #[.int .i64 t148, .int .i64 t149, .int .i64 t150, .int .i64 t151, .int .i64 t152, .int .i64 t153, .int .i64 t154, .int .i64 t155, .bool false]) ?_ 8 _ rfl; (with_reducible repeat (first | refine pN ?_ _ | refine pD ?_ | refine pA ?_ _)); refine blk_put (cs := #[.int .i64 t148, .int .i64 t149, .int .i64 t150, .int .i64 t151, .int .i64 t152, .int .i64 t153, .int .i64 t154, .int .i64 0, .bool false]) ?_ 7 _ rfl; (with_reducible repeat (first | refine pN ?_ _ | refine pD ?_ | refine pA ?_ _)); refine blk_put (cs := #[.int .i64 t148, .int .i64 t149, .int .i64 t150, .int .i64 t151, .int .i64 t152, .int .i64 t153, .int .i64 0, .int .i64 0, .bool false]) ?_ 6 _ rfl; (with_reducible repeat (first | refine pN ?_ _ | refine pD ?_ | refine pA ?_ _)); refine blk_put (cs := #[.int .i64 t148, .int .i64 t149, .int .i64 t150, .int .i64 t151, .int .i64 t152, .int .i64 0, .int .i64 0, .int .i64 0, .bool false]) ?_ 5 _ rfl; (with_reducible repeat (first | refine pN ?_ _ | refine pD ?_ | refine pA ?_ _)); refine blk_put (cs := #[.int .i64 t148, .int .i64 t149, .int .i64 t150, .int .i64 t151, .int .i64 0, .int .i64 0, .int .i64 0, .int .i64 0, .bool false]) ?_ 4 _ rfl; (with_reducible repeat (first | refine pN ?_ _ | refine pD ?_ | refine pA ?_ _)); refine blk_put (cs := #[.int .i64 t148, .int .i64 t149, .int .i64 t150, .int .i64 0, .int .i64 0, .int .i64 0, .int .i64 0, .int .i64 0, .bool false]) ?_ 3 _ rfl; (with_reducible repeat (first | refine pN ?_ _ | refine pD ?_ | refine pA ?_ _)); refine blk_put (cs := #[.int .i64 t148, .int .i64 t149, .int .i64 0, .int .i64 0, .int .i64 0, .int .i64 0, .int .i64 0, .int .i64 0, .bool false]) ?_ 2 _ rfl; (with_reducible repeat (first | refine pN ?_ _ | refine pD ?_ | refine pA ?_ _)); refine blk_put (cs := #[.int .i64 t148, .int .i64 0, .int .i64 0, .int .i64 0, .int .i64 0, .int .i64 0, .int .i64 0, .int .i64 0, .bool false]) ?_ 1 _ rfl; (with_reducible repeat (first | refine pN ?_ _ | refine pD ?_ | refine pA ?_ _)); refine blk_put (cs := #[.int .i64 0, .int .i64 0, .int .i64 0, .int .i64 0, .int .i64 0, .int .i64 0, .int .i64 0, .int .i64 0, .bool false]) ?_ 0 _ rfl; (with_reducible repeat (first | refine pN ?_ _ | refine pD ?_ | refine pA ?_ _)); exact BK157.out) hb); have n2_ := Aside0.mk (below_step (by repeat (first | (with_reducible first | exact HB.out | apply below_alloc | apply pw_below_drewN | apply below_drew1 | refine below_set ?_ GE146.out | refine below_set ?_ GE157.out) | exact HB.out)) hb); clear BK146; clear BK157; clear HB; have BK146 := n0_; have BK157 := n1_; have HB := n2_; clear n0_ n1_ n2_; (try clear hb); (try clear hb2); (try clear hk); (try clear hi)) | ((with_reducible refine gate_dst (N := 8) rfl ?_); refine box_event ?hg (N := 8) ?hd (cs := #[.int .i64 0, .int .i64 0, .int .i64 0, .int .i64 0]) (t := 31) ?hr ?_; (case hd => rfl); (case hg => rfl); (case hr => first | (go_simp; done) | (go_simp; rfl)); intro gb162 hg w128 hbox hb; have n0_ := Aside0.mk (blk_below (g := gb146) (by (with_reducible repeat (first | refine pN ?_ _ | refine pD ?_ | refine pA ?_ _)); exact BK146.out) hb); have n1_ := Aside0.mk (blk_below (g := gb157) (by (with_reducible repeat (first | refine pN ?_ _ | refine pD ?_ | refine pA ?_ _)); exact BK157.out) hb); have n2_ := Aside0.mk (below_step (by repeat (first | (with_reducible first | exact HB.out | apply below_alloc | apply pw_below_drewN | apply below_drew1 | refine below_set ?_ GE146.out | refine below_set ?_ GE157.out) | exact HB.out)) hb); have n3_ := Aside0.mk (hbox); have n4_ := Aside0.mk ((by rw [hg]; exact (below_size (by repeat (first | (with_reducible first | exact HB.out | apply below_alloc | apply pw_below_drewN | apply below_drew1 | refine below_set ?_ GE146.out | refine below_set ?_ GE157.out) | exact HB.out))) : w.heap.size ≤ gb162)); have n5_ := n4_; have n6_ := Aside0.mk ((by rw [hg]; exact Nat.ne_of_lt (blk_lt (g := gb146) (by (with_reducible repeat (first | refine pN ?_ _ | refine pD ?_ | refine pA ?_ _)); exact BK146.out)) : gb146 ≠ gb162)); have n7_ := Aside0.mk n6_.out.symm; have n8_ := Aside0.mk ((by rw [hg]; exact Nat.ne_of_lt (blk_lt (g := gb157) (by (with_reducible repeat (first | refine pN ?_ _ | refine pD ?_ | refine pA ?_ _)); exact BK157.out)) : gb157 ≠ gb162)); have n9_ := Aside0.mk n8_.out.symm; clear BK146; clear BK157; clear HB; have BK146 := n0_; have BK157 := n1_; have HB := n2_; have BK162 := n3_; have GW162 := n4_; have GE162 := n5_; have NB146_162 := n6_; have NB162_146 := n7_; have NB157_162 := n8_; have NB162_157 := n9_; clear n0_ n1_ n2_ n3_ n4_ n5_ n6_ n7_ n8_ n9_; clear hb hbox hg; have hnb129 := NB162_146.out; have hnc129 := NB146_162.out; have hnb130 := NB162_157.out; have hnc130 := NB157_162.out; have hcz131_0 : w128.cell? ⟨gb162, 0, none⟩ = some (.int .i64 0) := (blk_cell BK162.out 0).trans rfl; have hcz131_1 : w128.cell? ⟨gb162, 1, none⟩ = some (.int .i64 0) := (blk_cell BK162.out 1).trans rfl; have hcz131_2 : w128.cell? ⟨gb162, 2, none⟩ = some (.int .i64 0) := (blk_cell BK162.out 2).trans rfl; have hcz131_3 : w128.cell? ⟨gb162, 3, none⟩ = some (.int .i64 0) := (blk_cell BK162.out 3).trans rfl; have hfz131_0 := blk_frozen BK162.out 0; have hfz131_1 := blk_frozen BK162.out 1; have hfz131_2 := blk_frozen BK162.out 2; have hfz131_3 := blk_frozen BK162.out 3) | ((with_reducible refine gate_callee (f := 15) rfl ?_); refine goesL_ (some 23) rfl rfl Try.func15 (by kernel_rfl) rfl #[.int .i64 5, .int .i64 (Go.bits .and .i64 a1 63)] rfl (by (try simp only [map_toArray, map_cons, map_nil]); first | done | rfl | (simp only [length_drop, length_take]; rfl)) ?_; (with_reducible refine (cell_New.calls 5 (Go.bits .and .i64 a1 63) t163 t164 t165 t166 _ A8.out).mono ?_); rintro e w132 ⟨rfl, hb⟩; refine ⟨_, rfl, ?_⟩; have n0_ := Aside0.mk (blk_below (g := gb146) (o := .cells #[.int .i64 a0_0, .int .i64 a0_1, .int .i64 a0_2] 23 (0, 0)) (by (with_reducible repeat (first | refine pN ?_ _ | refine pD ?_ | refine pA ?_ _)); refine blk_far ?_ NB146_162.out _; (with_reducible repeat (first | refine pN ?_ _ | refine pD ?_ | refine pA ?_ _)); refine blk_far ?_ NB146_162.out _; (with_reducible repeat (first | refine pN ?_ _ | refine pD ?_ | refine pA ?_ _)); refine blk_far ?_ NB146_162.out _; (with_reducible repeat (first | refine pN ?_ _ | refine pD ?_ | refine pA ?_ _)); refine blk_far ?_ NB146_162.out _; (with_reducible repeat (first | refine pN ?_ _ | refine pD ?_ | refine pA ?_ _)); exact BK146.out) hb); have n1_ := Aside0.mk (blk_below (g := gb157) (o := .cells #[.int .i64 t148, .int .i64 t149, .int .i64 t150, .int .i64 t151, .int .i64 t152, .int .i64 t153, .int .i64 t154, .int .i64 t155, .bool t156] 28 (0, 0)) (by (with_reducible repeat (first | refine pN ?_ _ | refine pD ?_ | refine pA ?_ _)); refine blk_far ?_ NB157_162.out _; (with_reducible repeat (first | refine pN ?_ _ | refine pD ?_ | refine pA ?_ _)); refine blk_far ?_ NB157_162.out _; (with_reducible repeat (first | refine pN ?_ _ | refine pD ?_ | refine pA ?_ _)); refine blk_far ?_ NB157_162.out _; (with_reducible repeat (first | refine pN ?_ _ | refine pD ?_ | refine pA ?_ _)); refine blk_far ?_ NB157_162.out _; (with_reducible repeat (first | refine pN ?_ _ | refine pD ?_ | refine pA ?_ _)); exact BK157.out) hb); have n2_ := Aside0.mk (blk_below (g := gb162) (o := .cells #[.int .i64 t158, .int .i64 t159, .int .i64 t160, .int .i64 t161] 31 (0, 0)) (by (with_reducible repeat (first | refine pN ?_ _ | refine pD ?_ | refine pA ?_ _)); refine blk_put (cs := #[.int .i64 t158, .int .i64 t159, .int .i64 t160, .int .i64 0]) ?_ 3 _ rfl; (with_reducible repeat (first | refine pN ?_ _ | refine pD ?_ | refine pA ?_ _)); refine blk_put (cs := #[.int .i64 t158, .int .i64 t159, .int .i64 0, .int .i64 0]) ?_ 2 _ rfl; (with_reducible repeat (first | refine pN ?_ _ | refine pD ?_ | refine pA ?_ _)); refine blk_put (cs := #[.int .i64 t158, .int .i64 0, .int .i64 0, .int .i64 0]) ?_ 1 _ rfl; (with_reducible repeat (first | refine pN ?_ _ | refine pD ?_ | refine pA ?_ _)); refine blk_put (cs := #[.int .i64 0, .int .i64 0, .int .i64 0, .int .i64 0]) ?_ 0 _ rfl; (with_reducible repeat (first | refine pN ?_ _ | refine pD ?_ | refine pA ?_ _)); exact BK162.out) hb); have n3_ := Aside0.mk (below_step (by repeat (first | (with_reducible first | exact HB.out | apply below_alloc | apply pw_below_drewN | apply below_drew1 | refine below_set ?_ GE146.out | refine below_set ?_ GE157.out | refine below_set ?_ GE162.out) | exact HB.out)) hb); clear BK146; clear BK157; clear BK162; clear HB; have BK146 := n0_; have BK157 := n1_; have BK162 := n2_; have HB := n3_; clear n0_ n1_ n2_ n3_; (try clear hb); (try clear hb2); (try clear hk); (try clear hi)) | ((with_reducible refine gate_callee (f := 15) rfl ?_); refine goesL_ (some 24) rfl rfl Try.func15 (by kernel_rfl) rfl #[.int .i64 5, .int .i64 0] rfl (by (try simp only [map_toArray, map_cons, map_nil]); first | done | rfl | (simp only [length_drop, length_take]; rfl)) ?_; (with_reducible refine (cell_New.calls 5 0 t167 t168 t169 t170 _ A9.out).mono ?_); rintro e w133 ⟨rfl, hb⟩; refine ⟨_, rfl, ?_⟩; have n0_ := Aside0.mk (blk_below (g := gb146) (by (with_reducible repeat (first | refine pN ?_ _ | refine pD ?_ | refine pA ?_ _)); exact BK146.out) hb); have n1_ := Aside0.mk (blk_below (g := gb157) (by (with_reducible repeat (first | refine pN ?_ _ | refine pD ?_ | refine pA ?_ _)); exact BK157.out) hb); have n2_ := Aside0.mk (blk_below (g := gb162) (by (with_reducible repeat (first | refine pN ?_ _ | refine pD ?_ | refine pA ?_ _)); exact BK162.out) hb); have n3_ := Aside0.mk (below_step (by repeat (first | (with_reducible first | exact HB.out | apply below_alloc | apply pw_below_drewN | apply below_drew1 | refine below_set ?_ GE146.out | refine below_set ?_ GE157.out | refine below_set ?_ GE162.out) | exact HB.out)) hb); clear BK146; clear BK157; clear BK162; clear HB; have BK146 := n0_; have BK157 := n1_; have BK162 := n2_; have HB := n3_; clear n0_ n1_ n2_ n3_; (try clear hb); (try clear hb2); (try clear hk); (try clear hi)) | ((with_reducible refine gate_dst (N := 9) rfl ?_); refine box_event ?hg (N := 9) ?hd (cs := #[.int .i64 0, .int .i64 0, .int .i64 0, .int .i64 0]) (t := 36) ?hr ?_; (case hd => rfl); (case hg => rfl); (case hr => first | (go_simp; done) | (go_simp; rfl)); intro gb171 hg w134 hbox hb; have n0_ := Aside0.mk (blk_below (g := gb146) (by (with_reducible repeat (first | refine pN ?_ _ | refine pD ?_ | refine pA ?_ _)); exact BK146.out) hb); have n1_ := Aside0.mk (blk_below (g := gb157) (by (with_reducible repeat (first | refine pN ?_ _ | refine pD ?_ | refine pA ?_ _)); exact BK157.out) hb); have n2_ := Aside0.mk (blk_below (g := gb162) (by (with_reducible repeat (first | refine pN ?_ _ | refine pD ?_ | refine pA ?_ _)); exact BK162.out) hb); have n3_ := Aside0.mk (below_step (by repeat (first | (with_reducible first | exact HB.out | apply below_alloc | apply pw_below_drewN | apply below_drew1 | refine below_set ?_ GE146.out | refine below_set ?_ GE157.out | refine below_set ?_ GE162.out) | exact HB.out)) hb); have n4_ := Aside0.mk (hbox); have n5_ := Aside0.mk ((by rw [hg]; exact (below_size (by repeat (first | (with_reducible first | exact HB.out | apply below_alloc | apply pw_below_drewN | apply below_drew1 | refine below_set ?_ GE146.out | refine below_set ?_ GE157.out | refine below_set ?_ GE162.out) | exact HB.out))) : w.heap.size ≤ gb171)); have n6_ := n5_; have n7_ := Aside0.mk ((by rw [hg]; exact Nat.ne_of_lt (blk_lt (g := gb146) (by (with_reducible repeat (first | refine pN ?_ _ | refine pD ?_ | refine pA ?_ _)); exact BK146.out)) : gb146 ≠ gb171)); have n8_ := Aside0.mk n7_.out.symm; have n9_ := Aside0.mk ((by rw [hg]; exact Nat.ne_of_lt (blk_lt (g := gb157) (by (with_reducible repeat (first | refine pN ?_ _ | refine pD ?_ | refine pA ?_ _)); exact BK157.out)) : gb157 ≠ gb171)); have n10_ := Aside0.mk n9_.out.symm; have n11_ := Aside0.mk ((by rw [hg]; exact Nat.ne_of_lt (blk_lt (g := gb162) (by (with_reducible repeat (first | refine pN ?_ _ | refine pD ?_ | refine pA ?_ _)); exact BK162.out)) : gb162 ≠ gb171)); have n12_ := Aside0.mk n11_.out.symm; clear BK146; clear BK157; clear BK162; clear HB; have BK146 := n0_; have BK157 := n1_; have BK162 := n2_; have HB := n3_; have BK171 := n4_; have GW171 := n5_; have GE171 := n6_; have NB146_171 := n7_; have NB171_146 := n8_; have NB157_171 := n9_; have NB171_157 := n10_; have NB162_171 := n11_; have NB171_162 := n12_; clear n0_ n1_ n2_ n3_ n4_ n5_ n6_ n7_ n8_ n9_ n10_ n11_ n12_; clear hb hbox hg) | ((with_reducible refine gate_dst (N := 10) rfl ?_); refine box_event ?hg (N := 10) ?hd (cs := #[.int .i64 0, .int .i64 0, .int .i64 0, .int .i64 0]) (t := 36) ?hr ?_; (case hd => rfl); (case hg => rfl); (case hr => first | (go_simp; done) | (go_simp; rfl)); intro gb172 hg w135 hbox hb; have n0_ := Aside0.mk (blk_below (g := gb146) (by (with_reducible repeat (first | refine pN ?_ _ | refine pD ?_ | refine pA ?_ _)); exact BK146.out) hb); have n1_ := Aside0.mk (blk_below (g := gb157) (by (with_reducible repeat (first | refine pN ?_ _ | refine pD ?_ | refine pA ?_ _)); exact BK157.out) hb); have n2_ := Aside0.mk (blk_below (g := gb162) (by (with_reducible repeat (first | refine pN ?_ _ | refine pD ?_ | refine pA ?_ _)); exact BK162.out) hb); have n3_ := Aside0.mk (blk_below (g := gb171) (by (with_reducible repeat (first | refine pN ?_ _ | refine pD ?_ | refine pA ?_ _)); exact BK171.out) hb); have n4_ := Aside0.mk (below_step (by repeat (first | (with_reducible first | exact HB.out | apply below_alloc | apply pw_below_drewN | apply below_drew1 | refine below_set ?_ GE146.out | refine below_set ?_ GE157.out | refine below_set ?_ GE162.out | refine below_set ?_ GE171.out) | exact HB.out)) hb); have n5_ := Aside0.mk (hbox); have n6_ := Aside0.mk ((by rw [hg]; exact (below_size (by repeat (first | (with_reducible first | exact HB.out | apply below_alloc | apply pw_below_drewN | apply below_drew1 | refine below_set ?_ GE146.out | refine below_set ?_ GE157.out | refine below_set ?_ GE162.out | refine below_set ?_ GE171.out) | exact HB.out))) : w.heap.size ≤ gb172)); have n7_ := n6_; have n8_ := Aside0.mk ((by rw [hg]; exact Nat.ne_of_lt (blk_lt (g := gb146) (by (with_reducible repeat (first | refine pN ?_ _ | refine pD ?_ | refine pA ?_ _)); exact BK146.out)) : gb146 ≠ gb172)); have n9_ := Aside0.mk n8_.out.symm; have n10_ := Aside0.mk ((by rw [hg]; exact Nat.ne_of_lt (blk_lt (g := gb157) (by (with_reducible repeat (first | refine pN ?_ _ | refine pD ?_ | refine pA ?_ _)); exact BK157.out)) : gb157 ≠ gb172)); have n11_ := Aside0.mk n10_.out.symm; have n12_ := Aside0.mk ((by rw [hg]; exact Nat.ne_of_lt (blk_lt (g := gb162) (by (with_reducible repeat (first | refine pN ?_ _ | refine pD ?_ | refine pA ?_ _)); exact BK162.out)) : gb162 ≠ gb172)); have n13_ := Aside0.mk n12_.out.symm; have n14_ := Aside0.mk ((by rw [hg]; exact Nat.ne_of_lt (blk_lt (g := gb171) (by (with_reducible repeat (first | refine pN ?_ _ | refine pD ?_ | refine pA ?_ _)); exact BK171.out)) : gb171 ≠ gb172)); have n15_ := Aside0.mk n14_.out.symm; clear BK146; clear BK157; clear BK162; clear BK171; clear HB; have BK146 := n0_; have BK157 := n1_; have BK162 := n2_; have BK171 := n3_; have HB := n4_; have BK172 := n5_; have GW172 := n6_; have GE172 := n7_; have NB146_172 := n8_; have NB172_146 := n9_; have NB157_172 := n10_; have NB172_157 := n11_; have NB162_172 := n12_; have NB172_162 := n13_; have NB171_172 := n14_; have NB172_171 := n15_; clear n0_ n1_ n2_ n3_ n4_ n5_ n6_ n7_ n8_ n9_ n10_ n11_ n12_ n13_ n14_ n15_; clear hb hbox hg; have hnb136 := NB171_146.out; have hnc136 := NB146_171.out; have hnb137 := NB171_157.out; have hnc137 := NB157_171.out; have hnb138 := NB171_162.out; have hnc138 := NB162_171.out; have hnb139 := NB171_172.out; have hnc139 := NB172_171.out; have hcz140_0 : w135.cell? ⟨gb171, 0, none⟩ = some (.int .i64 0) := (blk_cell BK171.out 0).trans rfl; have hcz140_1 : w135.cell? ⟨gb171, 1, none⟩ = some (.int .i64 0) := (blk_cell BK171.out 1).trans rfl; have hcz140_2 : w135.cell? ⟨gb171, 2, none⟩ = some (.int .i64 0) := (blk_cell BK171.out 2).trans rfl; have hcz140_3 : w135.cell? ⟨gb171, 3, none⟩ = some (.int .i64 0) := (blk_cell BK171.out 3).trans rfl; have hfz140_0 := blk_frozen BK171.out 0; have hfz140_1 := blk_frozen BK171.out 1; have hfz140_2 := blk_frozen BK171.out 2; have hfz140_3 := blk_frozen BK171.out 3; have hnb141 := NB172_146.out; have hnc141 := NB146_172.out; have hnb142 := NB172_157.out; have hnc142 := NB157_172.out; have hnb143 := NB172_162.out; have hnc143 := NB162_172.out; have hcz144_0 : w135.cell? ⟨gb172, 0, none⟩ = some (.int .i64 0) := (blk_cell BK172.out 0).trans rfl; have hcz144_1 : w135.cell? ⟨gb172, 1, none⟩ = some (.int .i64 0) := (blk_cell BK172.out 1).trans rfl; have hcz144_2 : w135.cell? ⟨gb172, 2, none⟩ = some (.int .i64 0) := (blk_cell BK172.out 2).trans rfl; have hcz144_3 : w135.cell? ⟨gb172, 3, none⟩ = some (.int .i64 0) := (blk_cell BK172.out 3).trans rfl; have hfz144_0 := blk_frozen BK172.out 0; have hfz144_1 := blk_frozen BK172.out 1; have hfz144_2 := blk_frozen BK172.out 2; have hfz144_3 := blk_frozen BK172.out 3; have hcz145_0 : w135.cell? ⟨gb157, 0, none⟩ = some (.int .i64 t148) := (blk_cell BK157.out 0).trans rfl; have hcz145_1 : w135.cell? ⟨gb157, 1, none⟩ = some (.int .i64 t149) := (blk_cell BK157.out 1).trans rfl; have hcz145_2 : w135.cell? ⟨gb157, 2, none⟩ = some (.int .i64 t150) := (blk_cell BK157.out 2).trans rfl; have hcz145_3 : w135.cell? ⟨gb157, 3, none⟩ = some (.int .i64 t151) := (blk_cell BK157.out 3).trans rfl; have hcz145_4 : w135.cell? ⟨gb157, 4, none⟩ = some (.int .i64 t152) := (blk_cell BK157.out 4).trans rfl; have hcz145_5 : w135.cell? ⟨gb157, 5, none⟩ = some (.int .i64 t153) := (blk_cell BK157.out 5).trans rfl; have hcz145_6 : w135.cell? ⟨gb157, 6, none⟩ = some (.int .i64 t154) := (blk_cell BK157.out 6).trans rfl; have hcz145_7 : w135.cell? ⟨gb157, 7, none⟩ = some (.int .i64 t155) := (blk_cell BK157.out 7).trans rfl; have hcz145_8 : w135.cell? ⟨gb157, 8, none⟩ = some (.bool t156) := (blk_cell BK157.out 8).trans rfl; have hfz145_0 := blk_frozen BK157.out 0; have hfz145_1 := blk_frozen BK157.out 1; have hfz145_2 := blk_frozen BK157.out 2; have hfz145_3 := blk_frozen BK157.out 3; have hfz145_4 := blk_frozen BK157.out 4; have hfz145_5 := blk_frozen BK157.out 5; have hfz145_6 := blk_frozen BK157.out 6; have hfz145_7 := blk_frozen BK157.out 7; have hfz145_8 := blk_frozen BK157.out 8))
            have n0_ : Aside0 (((((((((w135.setCell ⟨gb171, 0, none⟩ (.int .i64 t163)).setCell ⟨gb171, 1, none⟩ (.int .i64 t164)).setCell ⟨gb171, 2, none⟩ (.int .i64 t165)).setCell ⟨gb171, 3, none⟩ (.int .i64 t166)).setCell ⟨gb172, 0, none⟩ (.int .i64 t167)).setCell ⟨gb172, 1, none⟩ (.int .i64 t168)).setCell ⟨gb172, 2, none⟩ (.int .i64 t169)).setCell ⟨gb172, 3, none⟩ (.int .i64 t170)).heap[gb146]? = some (.cells #[.int .i64 a0_0, .int .i64 a0_1, .int .i64 a0_2] 23 (0, 0))) := ⟨by (with_reducible repeat (first | refine pN ?_ _ | refine pD ?_ | refine pA ?_ _)); refine blk_far ?_ NB146_172.out _; (with_reducible repeat (first | refine pN ?_ _ | refine pD ?_ | refine pA ?_ _)); refine blk_far ?_ NB146_172.out _; (with_reducible repeat (first | refine pN ?_ _ | refine pD ?_ | refine pA ?_ _)); refine blk_far ?_ NB146_172.out _; (with_reducible repeat (first | refine pN ?_ _ | refine pD ?_ | refine pA ?_ _)); refine blk_far ?_ NB146_172.out _; (with_reducible repeat (first | refine pN ?_ _ | refine pD ?_ | refine pA ?_ _)); refine blk_far ?_ NB146_171.out _; (with_reducible repeat (first | refine pN ?_ _ | refine pD ?_ | refine pA ?_ _)); refine blk_far ?_ NB146_171.out _; (with_reducible repeat (first | refine pN ?_ _ | refine pD ?_ | refine pA ?_ _)); refine blk_far ?_ NB146_171.out _; (with_reducible repeat (first | refine pN ?_ _ | refine pD ?_ | refine pA ?_ _)); refine blk_far ?_ NB146_171.out _; (with_reducible repeat (first | refine pN ?_ _ | refine pD ?_ | refine pA ?_ _)); exact BK146.out⟩
            have n1_ : Aside0 (((((((((w135.setCell ⟨gb171, 0, none⟩ (.int .i64 t163)).setCell ⟨gb171, 1, none⟩ (.int .i64 t164)).setCell ⟨gb171, 2, none⟩ (.int .i64 t165)).setCell ⟨gb171, 3, none⟩ (.int .i64 t166)).setCell ⟨gb172, 0, none⟩ (.int .i64 t167)).setCell ⟨gb172, 1, none⟩ (.int .i64 t168)).setCell ⟨gb172, 2, none⟩ (.int .i64 t169)).setCell ⟨gb172, 3, none⟩ (.int .i64 t170)).heap[gb157]? = some (.cells #[.int .i64 t148, .int .i64 t149, .int .i64 t150, .int .i64 t151, .int .i64 t152, .int .i64 t153, .int .i64 t154, .int .i64 t155, .bool t156] 28 (0, 0))) := ⟨by (with_reducible repeat (first | refine pN ?_ _ | refine pD ?_ | refine pA ?_ _)); refine blk_far ?_ NB157_172.out _; (with_reducible repeat (first | refine pN ?_ _ | refine pD ?_ | refine pA ?_ _)); refine blk_far ?_ NB157_172.out _; (with_reducible repeat (first | refine pN ?_ _ | refine pD ?_ | refine pA ?_ _)); refine blk_far ?_ NB157_172.out _; (with_reducible repeat (first | refine pN ?_ _ | refine pD ?_ | refine pA ?_ _)); refine blk_far ?_ NB157_172.out _; (with_reducible repeat (first | refine pN ?_ _ | refine pD ?_ | refine pA ?_ _)); refine blk_far ?_ NB157_171.out _; (with_reducible repeat (first | refine pN ?_ _ | refine pD ?_ | refine pA ?_ _)); refine blk_far ?_ NB157_171.out _; (with_reducible repeat (first | refine pN ?_ _ | refine pD ?_ | refine pA ?_ _)); refine blk_far ?_ NB157_171.out _; (with_reducible repeat (first | refine pN ?_ _ | refine pD ?_ | refine pA ?_ _)); refine blk_far ?_ NB157_171.out _; (with_reducible repeat (first | refine pN ?_ _ | refine pD ?_ | refine pA ?_ _)); exact BK157.out⟩
            have n2_ : Aside0 (((((((((w135.setCell ⟨gb171, 0, none⟩ (.int .i64 t163)).setCell ⟨gb171, 1, none⟩ (.int .i64 t164)).setCell ⟨gb171, 2, none⟩ (.int .i64 t165)).setCell ⟨gb171, 3, none⟩ (.int .i64 t166)).setCell ⟨gb172, 0, none⟩ (.int .i64 t167)).setCell ⟨gb172, 1, none⟩ (.int .i64 t168)).setCell ⟨gb172, 2, none⟩ (.int .i64 t169)).setCell ⟨gb172, 3, none⟩ (.int .i64 t170)).heap[gb162]? = some (.cells #[.int .i64 t158, .int .i64 t159, .int .i64 t160, .int .i64 t161] 31 (0, 0))) := ⟨by (with_reducible repeat (first | refine pN ?_ _ | refine pD ?_ | refine pA ?_ _)); refine blk_far ?_ NB162_172.out _; (with_reducible repeat (first | refine pN ?_ _ | refine pD ?_ | refine pA ?_ _)); refine blk_far ?_ NB162_172.out _; (with_reducible repeat (first | refine pN ?_ _ | refine pD ?_ | refine pA ?_ _)); refine blk_far ?_ NB162_172.out _; (with_reducible repeat (first | refine pN ?_ _ | refine pD ?_ | refine pA ?_ _)); refine blk_far ?_ NB162_172.out _; (with_reducible repeat (first | refine pN ?_ _ | refine pD ?_ | refine pA ?_ _)); refine blk_far ?_ NB162_171.out _; (with_reducible repeat (first | refine pN ?_ _ | refine pD ?_ | refine pA ?_ _)); refine blk_far ?_ NB162_171.out _; (with_reducible repeat (first | refine pN ?_ _ | refine pD ?_ | refine pA ?_ _)); refine blk_far ?_ NB162_171.out _; (with_reducible repeat (first | refine pN ?_ _ | refine pD ?_ | refine pA ?_ _)); refine blk_far ?_ NB162_171.out _; (with_reducible repeat (first | refine pN ?_ _ | refine pD ?_ | refine pA ?_ _)); exact BK162.out⟩
            have n3_ : Aside0 (((((((((w135.setCell ⟨gb171, 0, none⟩ (.int .i64 t163)).setCell ⟨gb171, 1, none⟩ (.int .i64 t164)).setCell ⟨gb171, 2, none⟩ (.int .i64 t165)).setCell ⟨gb171, 3, none⟩ (.int .i64 t166)).setCell ⟨gb172, 0, none⟩ (.int .i64 t167)).setCell ⟨gb172, 1, none⟩ (.int .i64 t168)).setCell ⟨gb172, 2, none⟩ (.int .i64 t169)).setCell ⟨gb172, 3, none⟩ (.int .i64 t170)).heap[gb171]? = some (.cells #[.int .i64 t163, .int .i64 t164, .int .i64 t165, .int .i64 t166] 36 (0, 0))) := ⟨by (with_reducible repeat (first | refine pN ?_ _ | refine pD ?_ | refine pA ?_ _)); refine blk_far ?_ NB171_172.out _; (with_reducible repeat (first | refine pN ?_ _ | refine pD ?_ | refine pA ?_ _)); refine blk_far ?_ NB171_172.out _; (with_reducible repeat (first | refine pN ?_ _ | refine pD ?_ | refine pA ?_ _)); refine blk_far ?_ NB171_172.out _; (with_reducible repeat (first | refine pN ?_ _ | refine pD ?_ | refine pA ?_ _)); refine blk_far ?_ NB171_172.out _; (with_reducible repeat (first | refine pN ?_ _ | refine pD ?_ | refine pA ?_ _)); refine blk_put (cs := #[.int .i64 t163, .int .i64 t164, .int .i64 t165, .int .i64 0]) ?_ 3 _ rfl; (with_reducible repeat (first | refine pN ?_ _ | refine pD ?_ | refine pA ?_ _)); refine blk_put (cs := #[.int .i64 t163, .int .i64 t164, .int .i64 0, .int .i64 0]) ?_ 2 _ rfl; (with_reducible repeat (first | refine pN ?_ _ | refine pD ?_ | refine pA ?_ _)); refine blk_put (cs := #[.int .i64 t163, .int .i64 0, .int .i64 0, .int .i64 0]) ?_ 1 _ rfl; (with_reducible repeat (first | refine pN ?_ _ | refine pD ?_ | refine pA ?_ _)); refine blk_put (cs := #[.int .i64 0, .int .i64 0, .int .i64 0, .int .i64 0]) ?_ 0 _ rfl; (with_reducible repeat (first | refine pN ?_ _ | refine pD ?_ | refine pA ?_ _)); exact BK171.out⟩
            have n4_ : Aside0 (((((((((w135.setCell ⟨gb171, 0, none⟩ (.int .i64 t163)).setCell ⟨gb171, 1, none⟩ (.int .i64 t164)).setCell ⟨gb171, 2, none⟩ (.int .i64 t165)).setCell ⟨gb171, 3, none⟩ (.int .i64 t166)).setCell ⟨gb172, 0, none⟩ (.int .i64 t167)).setCell ⟨gb172, 1, none⟩ (.int .i64 t168)).setCell ⟨gb172, 2, none⟩ (.int .i64 t169)).setCell ⟨gb172, 3, none⟩ (.int .i64 t170)).heap[gb172]? = some (.cells #[.int .i64 t167, .int .i64 t168, .int .i64 t169, .int .i64 t170] 36 (0, 0))) := ⟨by (with_reducible repeat (first | refine pN ?_ _ | refine pD ?_ | refine pA ?_ _)); refine blk_put (cs := #[.int .i64 t167, .int .i64 t168, .int .i64 t169, .int .i64 0]) ?_ 3 _ rfl; (with_reducible repeat (first | refine pN ?_ _ | refine pD ?_ | refine pA ?_ _)); refine blk_put (cs := #[.int .i64 t167, .int .i64 t168, .int .i64 0, .int .i64 0]) ?_ 2 _ rfl; (with_reducible repeat (first | refine pN ?_ _ | refine pD ?_ | refine pA ?_ _)); refine blk_put (cs := #[.int .i64 t167, .int .i64 0, .int .i64 0, .int .i64 0]) ?_ 1 _ rfl; (with_reducible repeat (first | refine pN ?_ _ | refine pD ?_ | refine pA ?_ _)); refine blk_put (cs := #[.int .i64 0, .int .i64 0, .int .i64 0, .int .i64 0]) ?_ 0 _ rfl; (with_reducible repeat (first | refine pN ?_ _ | refine pD ?_ | refine pA ?_ _)); refine blk_far ?_ NB172_171.out _; (with_reducible repeat (first | refine pN ?_ _ | refine pD ?_ | refine pA ?_ _)); refine blk_far ?_ NB172_171.out _; (with_reducible repeat (first | refine pN ?_ _ | refine pD ?_ | refine pA ?_ _)); refine blk_far ?_ NB172_171.out _; (with_reducible repeat (first | refine pN ?_ _ | refine pD ?_ | refine pA ?_ _)); refine blk_far ?_ NB172_171.out _; (with_reducible repeat (first | refine pN ?_ _ | refine pD ?_ | refine pA ?_ _)); exact BK172.out⟩
            have n5_ : Aside0 (Below w.heap.size w ((((((((w135.setCell ⟨gb171, 0, none⟩ (.int .i64 t163)).setCell ⟨gb171, 1, none⟩ (.int .i64 t164)).setCell ⟨gb171, 2, none⟩ (.int .i64 t165)).setCell ⟨gb171, 3, none⟩ (.int .i64 t166)).setCell ⟨gb172, 0, none⟩ (.int .i64 t167)).setCell ⟨gb172, 1, none⟩ (.int .i64 t168)).setCell ⟨gb172, 2, none⟩ (.int .i64 t169)).setCell ⟨gb172, 3, none⟩ (.int .i64 t170))) := ⟨by repeat (first | (with_reducible first | exact HB.out | apply below_alloc | apply pw_below_drewN | apply below_drew1 | refine below_set ?_ GE146.out | refine below_set ?_ GE157.out | refine below_set ?_ GE162.out | refine below_set ?_ GE171.out | refine below_set ?_ GE172.out) | exact HB.out)⟩
            (try clear BK146)
            (try clear BK157)
            (try clear BK162)
            (try clear BK171)
            (try clear BK172)
            (try clear HB)
            generalize ((((((((w135.setCell ⟨gb171, 0, none⟩ (.int .i64 t163)).setCell ⟨gb171, 1, none⟩ (.int .i64 t164)).setCell ⟨gb171, 2, none⟩ (.int .i64 t165)).setCell ⟨gb171, 3, none⟩ (.int .i64 t166)).setCell ⟨gb172, 0, none⟩ (.int .i64 t167)).setCell ⟨gb172, 1, none⟩ (.int .i64 t168)).setCell ⟨gb172, 2, none⟩ (.int .i64 t169)).setCell ⟨gb172, 3, none⟩ (.int .i64 t170)) = w146 at n0_ n1_ n2_ n3_ n4_ n5_ ⊢
            have BK146 := n0_
            have BK157 := n1_
            have BK162 := n2_
            have BK171 := n3_
            have BK172 := n4_
            have HB := n5_
            clear n0_ n1_ n2_ n3_ n4_ n5_
            have n0_ := Aside0.mk (blk_drew BK146.out)
            have n1_ := Aside0.mk (blk_drew BK157.out)
            have n2_ := Aside0.mk (blk_drew BK162.out)
            have n3_ := Aside0.mk (blk_drew BK171.out)
            have n4_ := Aside0.mk (blk_drew BK172.out)
            have n5_ := Aside0.mk (below_drew1 HB.out)
            clear BK146
            clear BK157
            clear BK162
            clear BK171
            clear BK172
            clear HB
            have BK146 := n0_
            have BK157 := n1_
            have BK162 := n2_
            have BK171 := n3_
            have BK172 := n4_
            have HB := n5_
            clear n0_ n1_ n2_ n3_ n4_ n5_
            refine start_ (n := 10) (S := fun w' => w'.cell? ⟨gb171, 0, none⟩ = some (.int .i64 t163) ∧ w'.cell? ⟨gb171, 1, none⟩ = some (.int .i64 t164) ∧ w'.cell? ⟨gb171, 2, none⟩ = some (.int .i64 t165) ∧ w'.cell? ⟨gb171, 3, none⟩ = some (.int .i64 t166) ∧ w'.cell? ⟨gb162, 0, none⟩ = some (.int .i64 t158) ∧ w'.cell? ⟨gb162, 1, none⟩ = some (.int .i64 t159) ∧ w'.cell? ⟨gb162, 2, none⟩ = some (.int .i64 t160) ∧ w'.cell? ⟨gb162, 3, none⟩ = some (.int .i64 t161) ∧ w'.cell? ⟨gb157, 0, none⟩ = some (.int .i64 t148) ∧ w'.cell? ⟨gb157, 1, none⟩ = some (.int .i64 t149) ∧ w'.cell? ⟨gb157, 2, none⟩ = some (.int .i64 t150) ∧ w'.cell? ⟨gb157, 3, none⟩ = some (.int .i64 t151) ∧ w'.cell? ⟨gb157, 4, none⟩ = some (.int .i64 t152) ∧ w'.cell? ⟨gb157, 5, none⟩ = some (.int .i64 t153) ∧ w'.cell? ⟨gb157, 6, none⟩ = some (.int .i64 t154) ∧ w'.cell? ⟨gb157, 7, none⟩ = some (.int .i64 t155) ∧ w'.cell? ⟨gb157, 8, none⟩ = some (.bool t156)) (ds := []) #[false, false, false, false, false, false, false, false, false, false] (by kernel_rfl) rfl rfl ⟨(blk_cell BK171.out 0).trans rfl, (blk_cell BK171.out 1).trans rfl, (blk_cell BK171.out 2).trans rfl, (blk_cell BK171.out 3).trans rfl, (blk_cell BK162.out 0).trans rfl, (blk_cell BK162.out 1).trans rfl, (blk_cell BK162.out 2).trans rfl, (blk_cell BK162.out 3).trans rfl, (blk_cell BK157.out 0).trans rfl, (blk_cell BK157.out 1).trans rfl, (blk_cell BK157.out 2).trans rfl, (blk_cell BK157.out 3).trans rfl, (blk_cell BK157.out 4).trans rfl, (blk_cell BK157.out 5).trans rfl, (blk_cell BK157.out 6).trans rfl, (blk_cell BK157.out 7).trans rfl, (blk_cell BK157.out 8).trans rfl⟩ (fun hHeld => ?_); refine with_tabW weighbridgelaw09_CellCarry.tab11 weighbridgelaw09_CellCarry.bits11 (fun HT_ HW_ => ?_)
            generalize w146.drew = w147 at BK146 BK157 BK162 BK171 BK172 HB hHeld ⊢
            refine pure_ (i := 2) (N := some 55) (v := ?_) (a' := ?_) #[false, false, true, false, false, false, false, false, false, false] rfl rfl (any_of HT_.out (by kernel_rfl)) (fun _ _ _ h => h) (Or.inl ⟨by rfl, ?_⟩) ?_ ?_
            rotate_left
            · intro w'
              go_simp
              with_reducible rfl
            rotate_left
            · simp only [Act.put, setIfInBounds_toArray, set_cons_zero, set_cons_succ, i64_w, i32_w]
              rfl
            refine pure_ (i := 3) (N := some 56) (v := ?_) (a' := ?_) #[false, false, true, true, false, false, false, false, false, false] rfl rfl (any_of HT_.out (by kernel_rfl)) (fun _ _ _ h => h) (Or.inl ⟨by rfl, ?_⟩) ?_ ?_
            rotate_left
            · intro w'
              go_simp
              with_reducible rfl
            rotate_left
            · simp only [Act.put, setIfInBounds_toArray, set_cons_zero, set_cons_succ, i64_w, i32_w]
              rfl
            refine pure_ (i := 5) (N := some 58) (v := ?_) (a' := ?_) #[false, false, true, true, false, true, false, false, false, false] rfl rfl (any_of HT_.out (by kernel_rfl)) (fun _ _ _ h => h) (Or.inl ⟨by rfl, ?_⟩) ?_ ?_
            rotate_left
            · intro w'
              go_simp
              with_reducible rfl
            rotate_left
            · simp only [Act.put, setIfInBounds_toArray, set_cons_zero, set_cons_succ, i64_w, i32_w]
              rfl
            refine pure_ (i := 6) (N := some 59) (v := ?_) (a' := ?_) #[false, false, true, true, false, true, true, false, false, false] rfl rfl (any_of HT_.out (by kernel_rfl)) (fun _ _ _ h => h) (Or.inl ⟨by rfl, ?_⟩) ?_ ?_
            rotate_left
            · intro w'
              go_simp
              with_reducible rfl
            rotate_left
            · simp only [Act.put, setIfInBounds_toArray, set_cons_zero, set_cons_succ, i64_w, i32_w]
              rfl
            refine take_ (i := 0) (N := some 53) (v := ?_) (a' := ?_) #[true, false, true, true, false, true, true, false, false, false] rfl rfl (take_ofW HT_.out HW_.out (by kernel_rfl)) (fun _ _ _ h => h) (Or.inl ⟨by rfl, ?_⟩) hHeld ?_ ?_
            rotate_left
            · rintro w' ⟨s0, s1, s2, s3, s4, s5, s6, s7, s8, s9, s10, s11, s12, s13, s14, s15, s16⟩
              go_simp
              with_reducible rfl
            rotate_left
            · simp only [Act.put, setIfInBounds_toArray, set_cons_zero, set_cons_succ, i64_w, i32_w]
              rfl
            refine take_ (i := 1) (N := some 54) (v := ?_) (a' := ?_) #[true, true, true, true, false, true, true, false, false, false] rfl rfl (take_ofW HT_.out HW_.out (by kernel_rfl)) (fun _ _ _ h => h) (Or.inl ⟨by rfl, ?_⟩) hHeld ?_ ?_
            rotate_left
            · rintro w' ⟨s0, s1, s2, s3, s4, s5, s6, s7, s8, s9, s10, s11, s12, s13, s14, s15, s16⟩
              go_simp
              with_reducible rfl
            rotate_left
            · simp only [Act.put, setIfInBounds_toArray, set_cons_zero, set_cons_succ, i64_w, i32_w]
              rfl
            refine take_ (i := 7) (N := some 60) (v := ?_) (a' := ?_) #[true, true, true, true, false, true, true, true, false, false] rfl rfl (take_ofW HT_.out HW_.out (by kernel_rfl)) (fun _ _ _ h => h) (Or.inl ⟨by rfl, ?_⟩) hHeld ?_ ?_
            rotate_left
            · rintro w' ⟨s0, s1, s2, s3, s4, s5, s6, s7, s8, s9, s10, s11, s12, s13, s14, s15, s16⟩
              go_simp
              with_reducible rfl
            rotate_left
            · simp only [Act.put, setIfInBounds_toArray, set_cons_zero, set_cons_succ, i64_w, i32_w]
              rfl
            refine pure_ (i := 8) (N := some 61) (v := ?_) (a' := ?_) #[true, true, true, true, false, true, true, true, true, false] rfl rfl (any_of HT_.out (by kernel_rfl)) (fun _ _ _ h => h) (Or.inl ⟨by rfl, ?_⟩) ?_ ?_
            rotate_left
            · intro w'
              go_simp
              with_reducible rfl
            rotate_left
            · simp only [Act.put, setIfInBounds_toArray, set_cons_zero, set_cons_succ, i64_w, i32_w]
              rfl
            refine one_ (i := 4) (N := some 57) #[true, true, true, true, true, true, true, true, true, false] rfl rfl (one_of HT_.out (by kernel_rfl)) (by decide) (fun K hK => ?_)
            refine goes_ Try.func17 (by kernel_rfl) rfl #[.agg #[.int .i64 t163, .int .i64 t164, .int .i64 t165, .int .i64 t166], .agg #[.int .i64 t158, .int .i64 t159, .int .i64 t160, .int .i64 t161], .int .i64 (wrap64 (5 + (Go.bits .and .i64 a2 1023)))] (by rfl) rfl rfl (by (try simp only [map_toArray, map_cons, map_nil]); first | done | rfl | (simp only [length_drop, length_take]; rfl)) ?_
            with_reducible refine (cell_Cell_Room.calls k t163 t164 t165 t166 t158 t159 t160 t161 (wrap64 (5 + (Go.bits .and .i64 a2 1023))) t176 _ A47.out).mono ?_
            rintro e w148 ⟨rfl, hb⟩
            refine ⟨_, rfl, ?_⟩
            have n0_ := Aside0.mk (blk_below (g := gb146) (by (with_reducible repeat (first | refine pN ?_ _ | refine pD ?_ | refine pA ?_ _)); exact BK146.out) hb)
            have n1_ := Aside0.mk (blk_below (g := gb157) (by (with_reducible repeat (first | refine pN ?_ _ | refine pD ?_ | refine pA ?_ _)); exact BK157.out) hb)
            have n2_ := Aside0.mk (blk_below (g := gb162) (by (with_reducible repeat (first | refine pN ?_ _ | refine pD ?_ | refine pA ?_ _)); exact BK162.out) hb)
            have n3_ := Aside0.mk (blk_below (g := gb171) (by (with_reducible repeat (first | refine pN ?_ _ | refine pD ?_ | refine pA ?_ _)); exact BK171.out) hb)
            have n4_ := Aside0.mk (blk_below (g := gb172) (by (with_reducible repeat (first | refine pN ?_ _ | refine pD ?_ | refine pA ?_ _)); exact BK172.out) hb)
            have n5_ := Aside0.mk (below_step (by repeat (first | (with_reducible first | exact HB.out | apply below_alloc | apply pw_below_drewN | apply below_drew1 | refine below_set ?_ GE146.out | refine below_set ?_ GE157.out | refine below_set ?_ GE162.out | refine below_set ?_ GE171.out | refine below_set ?_ GE172.out) | exact HB.out)) hb)
            clear BK146
            clear BK157
            clear BK162
            clear BK171
            clear BK172
            clear HB
            have BK146 := n0_
            have BK157 := n1_
            have BK162 := n2_
            have BK171 := n3_
            have BK172 := n4_
            have HB := n5_
            clear n0_ n1_ n2_ n3_ n4_ n5_
            (try clear hb)
            (try clear hb2)
            (try clear hk)
            (try clear hi)
            refine hK.out _ _ ⟨(blk_cell BK171.out 0).trans rfl, (blk_cell BK171.out 1).trans rfl, (blk_cell BK171.out 2).trans rfl, (blk_cell BK171.out 3).trans rfl, (blk_cell BK162.out 0).trans rfl, (blk_cell BK162.out 1).trans rfl, (blk_cell BK162.out 2).trans rfl, (blk_cell BK162.out 3).trans rfl, (blk_cell BK157.out 0).trans rfl, (blk_cell BK157.out 1).trans rfl, (blk_cell BK157.out 2).trans rfl, (blk_cell BK157.out 3).trans rfl, (blk_cell BK157.out 4).trans rfl, (blk_cell BK157.out 5).trans rfl, (blk_cell BK157.out 6).trans rfl, (blk_cell BK157.out 7).trans rfl, (blk_cell BK157.out 8).trans rfl⟩ (fun hHeld => ?_)
            clear hK K
            refine norm_ (a' := ?_) ?_ ?_
            rotate_left
            · show Act.put _ (some 57) _ = _
              simp only [Act.put, setIfInBounds_toArray, set_cons_zero, set_cons_succ, i64_w, i32_w]
              rfl
            refine pure_ (i := 9) (N := some 62) (v := ?_) (a' := ?_) #[true, true, true, true, true, true, true, true, true, true] rfl rfl (any_of HT_.out (by kernel_rfl)) (fun _ _ _ h => h) (Or.inl ⟨by rfl, ?_⟩) ?_ ?_
            rotate_left
            · intro w'
              go_simp
              with_reducible rfl
            rotate_left
            · simp only [Act.put, setIfInBounds_toArray, set_cons_zero, set_cons_succ, i64_w, i32_w]
              rfl
            refine done_ (done_of HT_.out (by kernel_rfl)) ?_
            try go_wp2
            have n0_ := Aside0.mk (blk_drew BK146.out)
            have n1_ := Aside0.mk (blk_drew BK157.out)
            have n2_ := Aside0.mk (blk_drew BK162.out)
            have n3_ := Aside0.mk (blk_drew BK171.out)
            have n4_ := Aside0.mk (blk_drew BK172.out)
            have n5_ := Aside0.mk (below_drew1 HB.out)
            clear BK146
            clear BK157
            clear BK162
            clear BK171
            clear BK172
            clear HB
            have BK146 := n0_
            have BK157 := n1_
            have BK162 := n2_
            have BK171 := n3_
            have BK172 := n4_
            have HB := n5_
            clear n0_ n1_ n2_ n3_ n4_ n5_
            refine start_ (n := 27) (S := fun w' => w'.cell? ⟨gb171, 0, none⟩ = some (.int .i64 t163) ∧ w'.cell? ⟨gb171, 1, none⟩ = some (.int .i64 t164) ∧ w'.cell? ⟨gb171, 2, none⟩ = some (.int .i64 t165) ∧ w'.cell? ⟨gb171, 3, none⟩ = some (.int .i64 t166) ∧ w'.cell? ⟨gb162, 0, none⟩ = some (.int .i64 t158) ∧ w'.cell? ⟨gb162, 1, none⟩ = some (.int .i64 t159) ∧ w'.cell? ⟨gb162, 2, none⟩ = some (.int .i64 t160) ∧ w'.cell? ⟨gb162, 3, none⟩ = some (.int .i64 t161) ∧ w'.cell? ⟨gb157, 0, none⟩ = some (.int .i64 t148) ∧ w'.cell? ⟨gb157, 1, none⟩ = some (.int .i64 t149) ∧ w'.cell? ⟨gb157, 2, none⟩ = some (.int .i64 t150) ∧ w'.cell? ⟨gb157, 3, none⟩ = some (.int .i64 t151) ∧ w'.cell? ⟨gb157, 4, none⟩ = some (.int .i64 t152) ∧ w'.cell? ⟨gb157, 5, none⟩ = some (.int .i64 t153) ∧ w'.cell? ⟨gb157, 6, none⟩ = some (.int .i64 t154) ∧ w'.cell? ⟨gb157, 7, none⟩ = some (.int .i64 t155) ∧ w'.cell? ⟨gb157, 8, none⟩ = some (.bool t156)) (ds := []) #[false, false, false, false, false, false, false, false, false, false, false, false, false, false, false, false, false, false, false, false, false, false, false, false, false, false, false] (by kernel_rfl) rfl rfl ⟨(blk_cell BK171.out 0).trans rfl, (blk_cell BK171.out 1).trans rfl, (blk_cell BK171.out 2).trans rfl, (blk_cell BK171.out 3).trans rfl, (blk_cell BK162.out 0).trans rfl, (blk_cell BK162.out 1).trans rfl, (blk_cell BK162.out 2).trans rfl, (blk_cell BK162.out 3).trans rfl, (blk_cell BK157.out 0).trans rfl, (blk_cell BK157.out 1).trans rfl, (blk_cell BK157.out 2).trans rfl, (blk_cell BK157.out 3).trans rfl, (blk_cell BK157.out 4).trans rfl, (blk_cell BK157.out 5).trans rfl, (blk_cell BK157.out 6).trans rfl, (blk_cell BK157.out 7).trans rfl, (blk_cell BK157.out 8).trans rfl⟩ (fun hHeld => ?_); refine with_tabW weighbridgelaw09_CellCarry.tab13 weighbridgelaw09_CellCarry.bits13 (fun HT_ HW_ => ?_)
            generalize w148.drew = w149 at BK146 BK157 BK162 BK171 BK172 HB hHeld ⊢
            refine pure_ (i := 0) (N := some 63) (v := ?_) (a' := ?_) #[true, false, false, false, false, false, false, false, false, false, false, false, false, false, false, false, false, false, false, false, false, false, false, false, false, false, false] rfl rfl (any_of HT_.out (by kernel_rfl)) (fun _ _ _ h => h) (Or.inl ⟨by rfl, ?_⟩) ?_ ?_
            rotate_left
            · intro w'
              go_simp
              with_reducible rfl
            rotate_left
            · simp only [Act.put, setIfInBounds_toArray, set_cons_zero, set_cons_succ, i64_w, i32_w]
              rfl
            refine pure_ (i := 1) (N := some 64) (v := ?_) (a' := ?_) #[true, true, false, false, false, false, false, false, false, false, false, false, false, false, false, false, false, false, false, false, false, false, false, false, false, false, false] rfl rfl (any_of HT_.out (by kernel_rfl)) (fun _ _ _ h => h) (Or.inl ⟨by rfl, ?_⟩) ?_ ?_
            rotate_left
            · intro w'
              go_simp
              with_reducible rfl
            rotate_left
            · simp only [Act.put, setIfInBounds_toArray, set_cons_zero, set_cons_succ, i64_w, i32_w]
              rfl
            refine pure_ (i := 2) (N := some 65) (v := ?_) (a' := ?_) #[true, true, true, false, false, false, false, false, false, false, false, false, false, false, false, false, false, false, false, false, false, false, false, false, false, false, false] rfl rfl (any_of HT_.out (by kernel_rfl)) (fun _ _ _ h => h) (Or.inl ⟨by rfl, ?_⟩) ?_ ?_
            rotate_left
            · intro w'
              go_simp
              with_reducible rfl
            rotate_left
            · simp only [Act.put, setIfInBounds_toArray, set_cons_zero, set_cons_succ, i64_w, i32_w]
              rfl
            refine pure_ (i := 3) (N := some 66) (v := undef) (a' := ?_) #[true, true, true, true, false, false, false, false, false, false, false, false, false, false, false, false, false, false, false, false, false, false, false, false, false, false, false] rfl rfl (any_of HT_.out (by kernel_rfl)) (fun _ _ _ h => h) (Or.inr ⟨by rfl, rfl⟩) ?_ ?_
            rotate_left
            · simp only [Act.put, setIfInBounds_toArray, set_cons_zero, set_cons_succ, i64_w, i32_w]
              rfl
            refine pure_ (i := 4) (N := some 67) (v := undef) (a' := ?_) #[true, true, true, true, true, false, false, false, false, false, false, false, false, false, false, false, false, false, false, false, false, false, false, false, false, false, false] rfl rfl (any_of HT_.out (by kernel_rfl)) (fun _ _ _ h => h) (Or.inr ⟨by rfl, rfl⟩) ?_ ?_
            rotate_left
            · simp only [Act.put, setIfInBounds_toArray, set_cons_zero, set_cons_succ, i64_w, i32_w]
              rfl
            refine pure_ (i := 5) (N := some 68) (v := undef) (a' := ?_) #[true, true, true, true, true, true, false, false, false, false, false, false, false, false, false, false, false, false, false, false, false, false, false, false, false, false, false] rfl rfl (any_of HT_.out (by kernel_rfl)) (fun _ _ _ h => h) (Or.inr ⟨by rfl, rfl⟩) ?_ ?_
            rotate_left
            · simp only [Act.put, setIfInBounds_toArray, set_cons_zero, set_cons_succ, i64_w, i32_w]
              rfl
            refine pure_ (i := 6) (N := some 69) (v := undef) (a' := ?_) #[true, true, true, true, true, true, true, false, false, false, false, false, false, false, false, false, false, false, false, false, false, false, false, false, false, false, false] rfl rfl (any_of HT_.out (by kernel_rfl)) (fun _ _ _ h => h) (Or.inr ⟨by rfl, rfl⟩) ?_ ?_
            rotate_left
            · simp only [Act.put, setIfInBounds_toArray, set_cons_zero, set_cons_succ, i64_w, i32_w]
              rfl
            refine pure_ (i := 7) (N := some 70) (v := undef) (a' := ?_) #[true, true, true, true, true, true, true, true, false, false, false, false, false, false, false, false, false, false, false, false, false, false, false, false, false, false, false] rfl rfl (any_of HT_.out (by kernel_rfl)) (fun _ _ _ h => h) (Or.inr ⟨by rfl, rfl⟩) ?_ ?_
            rotate_left
            · simp only [Act.put, setIfInBounds_toArray, set_cons_zero, set_cons_succ, i64_w, i32_w]
              rfl
            refine pure_ (i := 8) (N := some 71) (v := undef) (a' := ?_) #[true, true, true, true, true, true, true, true, true, false, false, false, false, false, false, false, false, false, false, false, false, false, false, false, false, false, false] rfl rfl (any_of HT_.out (by kernel_rfl)) (fun _ _ _ h => h) (Or.inr ⟨by rfl, rfl⟩) ?_ ?_
            rotate_left
            · simp only [Act.put, setIfInBounds_toArray, set_cons_zero, set_cons_succ, i64_w, i32_w]
              rfl
            refine pure_ (i := 9) (N := some 72) (v := ?_) (a' := ?_) #[true, true, true, true, true, true, true, true, true, true, false, false, false, false, false, false, false, false, false, false, false, false, false, false, false, false, false] rfl rfl (any_of HT_.out (by kernel_rfl)) (fun _ _ _ h => h) (Or.inl ⟨by rfl, ?_⟩) ?_ ?_
            rotate_left
            · intro w'
              go_simp
              with_reducible rfl
            rotate_left
            · simp only [Act.put, setIfInBounds_toArray, set_cons_zero, set_cons_succ, i64_w, i32_w]
              rfl
            refine pure_ (i := 10) (N := some 73) (v := ?_) (a' := ?_) #[true, true, true, true, true, true, true, true, true, true, true, false, false, false, false, false, false, false, false, false, false, false, false, false, false, false, false] rfl rfl (any_of HT_.out (by kernel_rfl)) (fun _ _ _ h => h) (Or.inl ⟨by rfl, ?_⟩) ?_ ?_
            rotate_left
            · intro w'
              go_simp
              with_reducible rfl
            rotate_left
            · simp only [Act.put, setIfInBounds_toArray, set_cons_zero, set_cons_succ, i64_w, i32_w]
              rfl
            refine pure_ (i := 11) (N := some 74) (v := ?_) (a' := ?_) #[true, true, true, true, true, true, true, true, true, true, true, true, false, false, false, false, false, false, false, false, false, false, false, false, false, false, false] rfl rfl (any_of HT_.out (by kernel_rfl)) (fun _ _ _ h => h) (Or.inl ⟨by rfl, ?_⟩) ?_ ?_
            rotate_left
            · intro w'
              go_simp
              with_reducible rfl
            rotate_left
            · simp only [Act.put, setIfInBounds_toArray, set_cons_zero, set_cons_succ, i64_w, i32_w]
              rfl
            refine pure_ (i := 12) (N := some 75) (v := ?_) (a' := ?_) #[true, true, true, true, true, true, true, true, true, true, true, true, true, false, false, false, false, false, false, false, false, false, false, false, false, false, false] rfl rfl (any_of HT_.out (by kernel_rfl)) (fun _ _ _ h => h) (Or.inl ⟨by rfl, ?_⟩) ?_ ?_
            rotate_left
            · intro w'
              go_simp
              with_reducible rfl
            rotate_left
            · simp only [Act.put, setIfInBounds_toArray, set_cons_zero, set_cons_succ, i64_w, i32_w]
              rfl
            refine pure_ (i := 13) (N := some 76) (v := ?_) (a' := ?_) #[true, true, true, true, true, true, true, true, true, true, true, true, true, true, false, false, false, false, false, false, false, false, false, false, false, false, false] rfl rfl (any_of HT_.out (by kernel_rfl)) (fun _ _ _ h => h) (Or.inl ⟨by rfl, ?_⟩) ?_ ?_
            rotate_left
            · intro w'
              go_simp
              with_reducible rfl
            rotate_left
            · simp only [Act.put, setIfInBounds_toArray, set_cons_zero, set_cons_succ, i64_w, i32_w]
              rfl
            refine pure_ (i := 16) (N := some 79) (v := ?_) (a' := ?_) #[true, true, true, true, true, true, true, true, true, true, true, true, true, true, false, false, true, false, false, false, false, false, false, false, false, false, false] rfl rfl (any_of HT_.out (by kernel_rfl)) (fun _ _ _ h => h) (Or.inl ⟨by rfl, ?_⟩) ?_ ?_
            rotate_left
            · intro w'
              go_simp
              with_reducible rfl
            rotate_left
            · simp only [Act.put, setIfInBounds_toArray, set_cons_zero, set_cons_succ, i64_w, i32_w]
              rfl
            refine pure_ (i := 17) (N := some 80) (v := ?_) (a' := ?_) #[true, true, true, true, true, true, true, true, true, true, true, true, true, true, false, false, true, true, false, false, false, false, false, false, false, false, false] rfl rfl (any_of HT_.out (by kernel_rfl)) (fun _ _ _ h => h) (Or.inl ⟨by rfl, ?_⟩) ?_ ?_
            rotate_left
            · intro w'
              go_simp
              with_reducible rfl
            rotate_left
            · simp only [Act.put, setIfInBounds_toArray, set_cons_zero, set_cons_succ, i64_w, i32_w]
              rfl
            refine pure_ (i := 19) (N := some 82) (v := ?_) (a' := ?_) #[true, true, true, true, true, true, true, true, true, true, true, true, true, true, false, false, true, true, false, true, false, false, false, false, false, false, false] rfl rfl (any_of HT_.out (by kernel_rfl)) (fun _ _ _ h => h) (Or.inl ⟨by rfl, ?_⟩) ?_ ?_
            rotate_left
            · intro w'
              go_simp
              with_reducible rfl
            rotate_left
            · simp only [Act.put, setIfInBounds_toArray, set_cons_zero, set_cons_succ, i64_w, i32_w]
              rfl
            refine pure_ (i := 21) (N := some 84) (v := ?_) (a' := ?_) #[true, true, true, true, true, true, true, true, true, true, true, true, true, true, false, false, true, true, false, true, false, true, false, false, false, false, false] rfl rfl (any_of HT_.out (by kernel_rfl)) (fun _ _ _ h => h) (Or.inl ⟨by rfl, ?_⟩) ?_ ?_
            rotate_left
            · intro w'
              go_simp
              with_reducible rfl
            rotate_left
            · simp only [Act.put, setIfInBounds_toArray, set_cons_zero, set_cons_succ, i64_w, i32_w]
              rfl
            refine take_ (i := 14) (N := some 77) (v := ?_) (a' := ?_) #[true, true, true, true, true, true, true, true, true, true, true, true, true, true, true, false, true, true, false, true, false, true, false, false, false, false, false] rfl rfl (take_ofW HT_.out HW_.out (by kernel_rfl)) (fun _ _ _ h => h) (Or.inl ⟨by rfl, ?_⟩) hHeld ?_ ?_
            rotate_left
            · rintro w' ⟨s0, s1, s2, s3, s4, s5, s6, s7, s8, s9, s10, s11, s12, s13, s14, s15, s16⟩
              go_simp
              with_reducible rfl
            rotate_left
            · simp only [Act.put, setIfInBounds_toArray, set_cons_zero, set_cons_succ, i64_w, i32_w]
              rfl
            refine take_ (i := 15) (N := some 78) (v := ?_) (a' := ?_) #[true, true, true, true, true, true, true, true, true, true, true, true, true, true, true, true, true, true, false, true, false, true, false, false, false, false, false] rfl rfl (take_ofW HT_.out HW_.out (by kernel_rfl)) (fun _ _ _ h => h) (Or.inl ⟨by rfl, ?_⟩) hHeld ?_ ?_
            rotate_left
            · rintro w' ⟨s0, s1, s2, s3, s4, s5, s6, s7, s8, s9, s10, s11, s12, s13, s14, s15, s16⟩
              go_simp
              with_reducible rfl
            rotate_left
            · simp only [Act.put, setIfInBounds_toArray, set_cons_zero, set_cons_succ, i64_w, i32_w]
              rfl
            refine take_ (i := 20) (N := some 83) (v := ?_) (a' := ?_) #[true, true, true, true, true, true, true, true, true, true, true, true, true, true, true, true, true, true, false, true, true, true, false, false, false, false, false] rfl rfl (take_ofW HT_.out HW_.out (by kernel_rfl)) (fun _ _ _ h => h) (Or.inl ⟨by rfl, ?_⟩) hHeld ?_ ?_
            rotate_left
            · rintro w' ⟨s0, s1, s2, s3, s4, s5, s6, s7, s8, s9, s10, s11, s12, s13, s14, s15, s16⟩
              go_simp
              with_reducible rfl
            rotate_left
            · simp only [Act.put, setIfInBounds_toArray, set_cons_zero, set_cons_succ, i64_w, i32_w]
              rfl
            refine pure_ (i := 22) (N := some 85) (v := ?_) (a' := ?_) #[true, true, true, true, true, true, true, true, true, true, true, true, true, true, true, true, true, true, false, true, true, true, true, false, false, false, false] rfl rfl (any_of HT_.out (by kernel_rfl)) (fun _ _ _ h => h) (Or.inl ⟨by rfl, ?_⟩) ?_ ?_
            rotate_left
            · intro w'
              go_simp
              with_reducible rfl
            rotate_left
            · simp only [Act.put, setIfInBounds_toArray, set_cons_zero, set_cons_succ, i64_w, i32_w]
              rfl
            refine one_ (i := 18) (N := some 81) #[true, true, true, true, true, true, true, true, true, true, true, true, true, true, true, true, true, true, true, true, true, true, true, false, false, false, false] rfl rfl (one_of HT_.out (by kernel_rfl)) (by decide) (fun K hK => ?_)
            refine goes_ Try.func19 (by kernel_rfl) rfl #[.agg #[.int .i64 t163, .int .i64 t164, .int .i64 t165, .int .i64 t166], .agg #[.int .i64 t158, .int .i64 t159, .int .i64 t160, .int .i64 t161], .int .i64 (wrap64 (5 + (Go.bits .and .i64 a2 1023))), .int .i64 1] (by rfl) rfl rfl (by (try simp only [map_toArray, map_cons, map_nil]); first | done | rfl | (simp only [length_drop, length_take]; rfl)) ?_
            with_reducible refine (cell_Cell_Wait.calls t163 t164 t165 t166 t158 t159 t160 t161 (wrap64 (5 + (Go.bits .and .i64 a2 1023))) 1 t179 _ A119.out).mono ?_
            rintro e w150 ⟨rfl, hb⟩
            refine ⟨_, rfl, ?_⟩
            have n0_ := Aside0.mk (blk_below (g := gb146) (by (with_reducible repeat (first | refine pN ?_ _ | refine pD ?_ | refine pA ?_ _)); exact BK146.out) hb)
            have n1_ := Aside0.mk (blk_below (g := gb157) (by (with_reducible repeat (first | refine pN ?_ _ | refine pD ?_ | refine pA ?_ _)); exact BK157.out) hb)
            have n2_ := Aside0.mk (blk_below (g := gb162) (by (with_reducible repeat (first | refine pN ?_ _ | refine pD ?_ | refine pA ?_ _)); exact BK162.out) hb)
            have n3_ := Aside0.mk (blk_below (g := gb171) (by (with_reducible repeat (first | refine pN ?_ _ | refine pD ?_ | refine pA ?_ _)); exact BK171.out) hb)
            have n4_ := Aside0.mk (blk_below (g := gb172) (by (with_reducible repeat (first | refine pN ?_ _ | refine pD ?_ | refine pA ?_ _)); exact BK172.out) hb)
            have n5_ := Aside0.mk (below_step (by repeat (first | (with_reducible first | exact HB.out | apply below_alloc | apply pw_below_drewN | apply below_drew1 | refine below_set ?_ GE146.out | refine below_set ?_ GE157.out | refine below_set ?_ GE162.out | refine below_set ?_ GE171.out | refine below_set ?_ GE172.out) | exact HB.out)) hb)
            clear BK146
            clear BK157
            clear BK162
            clear BK171
            clear BK172
            clear HB
            have BK146 := n0_
            have BK157 := n1_
            have BK162 := n2_
            have BK171 := n3_
            have BK172 := n4_
            have HB := n5_
            clear n0_ n1_ n2_ n3_ n4_ n5_
            (try clear hb)
            (try clear hb2)
            (try clear hk)
            (try clear hi)
            refine hK.out _ _ ⟨(blk_cell BK171.out 0).trans rfl, (blk_cell BK171.out 1).trans rfl, (blk_cell BK171.out 2).trans rfl, (blk_cell BK171.out 3).trans rfl, (blk_cell BK162.out 0).trans rfl, (blk_cell BK162.out 1).trans rfl, (blk_cell BK162.out 2).trans rfl, (blk_cell BK162.out 3).trans rfl, (blk_cell BK157.out 0).trans rfl, (blk_cell BK157.out 1).trans rfl, (blk_cell BK157.out 2).trans rfl, (blk_cell BK157.out 3).trans rfl, (blk_cell BK157.out 4).trans rfl, (blk_cell BK157.out 5).trans rfl, (blk_cell BK157.out 6).trans rfl, (blk_cell BK157.out 7).trans rfl, (blk_cell BK157.out 8).trans rfl⟩ (fun hHeld => ?_)
            clear hK K
            refine norm_ (a' := ?_) ?_ ?_
            rotate_left
            · show Act.put _ (some 81) _ = _
              simp only [Act.put, setIfInBounds_toArray, set_cons_zero, set_cons_succ, i64_w, i32_w]
              rfl
            refine pure_ (i := 23) (N := some 86) (v := ?_) (a' := ?_) #[true, true, true, true, true, true, true, true, true, true, true, true, true, true, true, true, true, true, true, true, true, true, true, true, false, false, false] rfl rfl (any_of HT_.out (by kernel_rfl)) (fun _ _ _ h => h) (Or.inl ⟨by rfl, ?_⟩) ?_ ?_
            rotate_left
            · intro w'
              go_simp
              with_reducible rfl
            rotate_left
            · simp only [Act.put, setIfInBounds_toArray, set_cons_zero, set_cons_succ, i64_w, i32_w]
              rfl
            refine pure_ (i := 24) (N := some 87) (v := ?_) (a' := ?_) #[true, true, true, true, true, true, true, true, true, true, true, true, true, true, true, true, true, true, true, true, true, true, true, true, true, false, false] rfl rfl (any_of HT_.out (by kernel_rfl)) (fun _ _ _ h => h) (Or.inl ⟨by rfl, ?_⟩) ?_ ?_
            rotate_left
            · intro w'
              go_simp
              with_reducible rfl
            rotate_left
            · simp only [Act.put, setIfInBounds_toArray, set_cons_zero, set_cons_succ, i64_w, i32_w]
              rfl
            refine pure_ (i := 25) (N := some 88) (v := ?_) (a' := ?_) #[true, true, true, true, true, true, true, true, true, true, true, true, true, true, true, true, true, true, true, true, true, true, true, true, true, true, false] rfl rfl (any_of HT_.out (by kernel_rfl)) (fun _ _ _ h => h) (Or.inl ⟨by rfl, ?_⟩) ?_ ?_
            rotate_left
            · intro w'
              go_simp
              with_reducible rfl
            rotate_left
            · simp only [Act.put, setIfInBounds_toArray, set_cons_zero, set_cons_succ, i64_w, i32_w]
              rfl
            refine pure_ (i := 26) (N := some 6) (v := ?_) (a' := ?_) #[true, true, true, true, true, true, true, true, true, true, true, true, true, true, true, true, true, true, true, true, true, true, true, true, true, true, true] rfl rfl (any_of HT_.out (by kernel_rfl)) (fun _ _ _ h => h) (Or.inl ⟨by rfl, ?_⟩) ?_ ?_
            rotate_left
            · intro w'
              go_simp
              with_reducible rfl
            rotate_left
            · simp only [Act.put, setIfInBounds_toArray, set_cons_zero, set_cons_succ, i64_w, i32_w]
              rfl
            refine done_ (done_of HT_.out (by kernel_rfl)) ?_
            try go_wp2
            go_ret
            exact ⟨by first | rfl | (simp [errW_none, errW_some] <;> rfl) | (simp only [← hji46, ← hji48]; first | rfl | (simp [errW_none, errW_some] <;> rfl)) | (simp [*, errW_none, errW_some] <;> rfl), by repeat (first | (with_reducible first | exact HB.out | apply below_alloc | apply pw_below_drewN | apply below_drew1 | refine below_set ?_ GE146.out | refine below_set ?_ GE157.out | refine below_set ?_ GE162.out | refine below_set ?_ GE171.out | refine below_set ?_ GE172.out) | exact HB.out)⟩
          · rw [if_neg c118] at H
            have c118b0 : ((ji46) == 0) = false := beq_eq_false_iff_ne.mpr c118
            have c118b1 : ((ji46) != 0) = true := bne_iff_ne.mpr c118
            exact absurd (Option.some.inj H) (by rw [hr_.out]; decide)
      · rw [if_neg c49] at H
        have c49b0 : (t176 == (ji48)) = false := beq_eq_false_iff_ne.mpr c49
        have c49b1 : (t176 != (ji48)) = true := bne_iff_ne.mpr c49
        exact absurd (Option.some.inj H) (by rw [hr_.out]; decide)
  · replace c5 := Bool.eq_false_iff.mpr c5
    subst c5
    have H1 : (some false) = some r := by rw [if_neg (show ¬ (false = true) by decide)] at H; exact H
    clear H
    have H := H1
    clear H1
    exact absurd (Option.some.inj H) (by rw [hr_.out]; decide)

/-- THE ONE PURE STATEMENT of weighbridgelaw09_CellCarry. -/
def weighbridgelaw09_CellCarry.Pure : Prop := ∀ (a0_0 : Int) (a0_1 : Int) (a0_2 : Int) (a1 : Int) (a2 : Int), (Lit.int .i64 a0_0).wf = true → (Lit.int .i64 a0_1).wf = true → (Lit.int .i64 a0_2).wf = true → (Lit.int .i64 a1).wf = true → (Lit.int .i64 a2).wf = true → ∃ k, weighbridgelaw09_CellCarry.f k a0_0 a0_1 a0_2 a1 a2 = some true
theorem weighbridgelaw09_CellCarry.walk (P : weighbridgelaw09_CellCarry.Pure) (a0_0 : Int) (a0_1 : Int) (a0_2 : Int) (a1 : Int) (a2 : Int) (w : World) (g0 : (Lit.int .i64 a0_0).wf = true) (g1 : (Lit.int .i64 a0_1).wf = true) (g2 : (Lit.int .i64 a0_2).wf = true) (g3 : (Lit.int .i64 a1).wf = true) (g4 : (Lit.int .i64 a2).wf = true) :
    Calls Try.prog 7 #[.agg #[.int .i64 a0_0, .int .i64 a0_1, .int .i64 a0_2], .int .i64 a1, .int .i64 a2] w fun e w' => e = .returned (.bool true) ∧ Below w.heap.size w w' := by
  obtain ⟨k, h⟩ := P a0_0 a0_1 a0_2 a1 a2 g0 g1 g2 g3 g4
  refine (weighbridgelaw09_CellCarry.calls k a0_0 a0_1 a0_2 a1 a2 true w  (Aside0.mk rfl) h).mono ?_
  rintro e w' ⟨rfl, hd⟩
  exact ⟨rfl, hd⟩

end Go.Proofs.Ytdnimnlnicnjnaa.QCellCarry
