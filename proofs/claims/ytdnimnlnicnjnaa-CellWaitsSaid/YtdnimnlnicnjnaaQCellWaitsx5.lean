-- Laid by a program of this session (wip/myprint.py, over the kit's print.py): a walk of the code and what it computes.
import Derived.Test.YtdnimnlnicnjnaaQCellWaitsx0
import Derived.Test.YtdnimnlnicnjnaaQCellWaitsx1
import Derived.Test.YtdnimnlnicnjnaaQCellWaitsx2
import Derived.Test.YtdnimnlnicnjnaaQCellWaitsx3
import Derived.Test.YtdnimnlnicnjnaaQCellWaitsx4
namespace Go.Proofs.Ytdnimnlnicnjnaa.QCellWaits
open Go.RowKit Go.Proofs.YtdnimnlnicnjnaaW.PrintWords Go.Proofs.YtdnimnlnicnjnaaW.PrintLast Go.Proofs.YtdnimnlnicnjnaaW.PrintMore
attribute [local go_sem] max2_int min2_int max_two min_two max_three min_three max_four min_four   -- for this text's walks alone
set_option linter.unusedVariables false
set_option linter.unusedSimpArgs false

/-! ### weighbridgelaw09_CellWaits: function 5 -/
mutual
def weighbridgelaw09_CellWaits.l0 : Nat → Int → List (S40) → Int → Int → Int → Int → Int → Int → Int → Int → Int → Int → Int → Int → Bool → Int → Int → Int → Int → Int → Int → Int → Int → Option (Bool)
  | 0, _, _, _, _, _, _, _, _, _, _, _, _, _, _, _, _, _, _, _, _, _, _, _ => none
  | k + 1, x9, x35, x36, x37, x148000, x148001, x159000, x159001, x159002, x159003, x159004, x159005, x159006, x159007, x159008, x164000, x164001, x164002, x164003, x169000, x169001, x169002, x169003 => if x37 < x36 then (if 0 ≤ x37 then (if x37 < (x35.length : Int) then ((weighbridgelaw09_gap.f ((rd_T40 x35 x37).f0)).bind fun t171 => (if x159002 = 0 then (none) else ((cell_Cell_Take.f k x169000 x169001 x169002 x169003 x164000 x164001 x164002 x164003 (wrap64 (x9 + t171)) (wrap64 ((Int.tmod (Go.bits .and .i64 ((rd_T40 x35 x37).f1) 31) x159002) + 1))).bind fun bt172 => (weighbridgelaw09_CellWaits.l0 k (wrap64 (x9 + t171)) x35 x36 (wrap64 (x37 + 1)) x148000 x148001 x159000 x159001 x159002 x159003 x159004 x159005 x159006 x159007 x159008 x164000 x164001 x164002 x164003 bt172.2.1 bt172.2.2.1 bt172.2.2.2.1 bt172.2.2.2.2)))) else (none)) else (none)) else (if x159002 = 0 then (none) else ((cell_Cell_Wait.f x169000 x169001 x169002 x169003 x164000 x164001 x164002 x164003 x9 (wrap64 ((Int.tmod (Go.bits .and .i64 x148001 31) x159002) + 1))).bind fun t177 => ((cell_Cell_Room.f k x169000 x169001 x169002 x169003 x164000 x164001 x164002 x164003 x9).bind fun t178 => (if ((t177 == 0) == (decide ((wrap64 ((Int.tmod (Go.bits .and .i64 x148001 31) x159002) + 1)) ≤ t178))) = true then (weighbridgelaw09_CellWaits.j1 k x9 (wrap64 ((Int.tmod (Go.bits .and .i64 x148001 31) x159002) + 1)) t177 (decide (t177 < 0)) x164000 x164001 x164002 x164003 x169000 x169001 x169002 x169003) else (weighbridgelaw09_CellWaits.j1 k x9 (wrap64 ((Int.tmod (Go.bits .and .i64 x148001 31) x159002) + 1)) t177 true x164000 x164001 x164002 x164003 x169000 x169001 x169002 x169003)))))
def weighbridgelaw09_CellWaits.j1 : Nat → Int → Int → Int → Bool → Int → Int → Int → Int → Int → Int → Int → Int → Option (Bool)
  | 0, _, _, _, _, _, _, _, _, _, _, _, _ => none
  | k + 1, x9, x14, x15, x81, x164000, x164001, x164002, x164003, x169000, x169001, x169002, x169003 => if x81 = true then (some false) else (if x15 > 0 then ((cell_Cell_Room.f k x169000 x169001 x169002 x169003 x164000 x164001 x164002 x164003 (wrap64 ((wrap64 (x9 + x15)) - 1))).bind fun t179 => (if x14 ≤ t179 then (some false) else ((cell_Cell_Take.f k x169000 x169001 x169002 x169003 x164000 x164001 x164002 x164003 (wrap64 (x9 + x15)) x14).bind fun bt180 => (some bt180.1)))) else ((cell_Cell_Take.f k x169000 x169001 x169002 x169003 x164000 x164001 x164002 x164003 (wrap64 (x9 + x15)) x14).bind fun bt185 => (some bt185.1)))
end
def weighbridgelaw09_CellWaits.f (k : Nat) (a0_0 : Int) (a0_1 : Int) (a0_2 : Int) (a1_0 : Int) (a1_1 : Int) (l2 : List (S40)) : Option (Bool) := (weighbridgelaw09_fit.f k).bind fun t148 => (if t148 = true then (if (l2.length : Int) > 100 then (some true) else ((weighbridgelaw09_Plan_Rule.f a0_0 a0_1 a0_2).bind fun bt149 => ((cell_Of.f k bt149.1 bt149.2.1 bt149.2.2.1 bt149.2.2.2.1 bt149.2.2.2.2.1 bt149.2.2.2.2.2.1 bt149.2.2.2.2.2.2.1 bt149.2.2.2.2.2.2.2.1 bt149.2.2.2.2.2.2.2.2).bind fun bt159 => (if (wrap64 (bt149.1 + 1)) = 0 then (none) else ((cell_New.f 3 (Int.tmod (Go.bits .and .i64 a1_0 63) (wrap64 (bt149.1 + 1)))).bind fun bt164 => (weighbridgelaw09_CellWaits.l0 k 3 l2 (l2.length : Int) 0 a1_0 a1_1 bt149.1 bt149.2.1 bt149.2.2.1 bt149.2.2.2.1 bt149.2.2.2.2.1 bt149.2.2.2.2.2.1 bt149.2.2.2.2.2.2.1 bt149.2.2.2.2.2.2.2.1 bt149.2.2.2.2.2.2.2.2 bt159.1 bt159.2.1 bt159.2.2.1 bt159.2.2.2 bt164.1 bt164.2.1 bt164.2.2.1 bt164.2.2.2)))))) else (some false))
theorem weighbridgelaw09_CellWaits.mono_l : ∀ k, (∀ y0 y1 y2 y3 y4 y5 y6 y7 y8 y9 y10 y11 y12 y13 y14 y15 y16 y17 y18 y19 y20 y21 y22, LeO (weighbridgelaw09_CellWaits.l0 k y0 y1 y2 y3 y4 y5 y6 y7 y8 y9 y10 y11 y12 y13 y14 y15 y16 y17 y18 y19 y20 y21 y22) (weighbridgelaw09_CellWaits.l0 (k + 1) y0 y1 y2 y3 y4 y5 y6 y7 y8 y9 y10 y11 y12 y13 y14 y15 y16 y17 y18 y19 y20 y21 y22)) ∧ (∀ y0 y1 y2 y3 y4 y5 y6 y7 y8 y9 y10 y11, LeO (weighbridgelaw09_CellWaits.j1 k y0 y1 y2 y3 y4 y5 y6 y7 y8 y9 y10 y11) (weighbridgelaw09_CellWaits.j1 (k + 1) y0 y1 y2 y3 y4 y5 y6 y7 y8 y9 y10 y11))
  | 0 => ⟨fun _ _ _ _ _ _ _ _ _ _ _ _ _ _ _ _ _ _ _ _ _ _ _ r h => by simp [weighbridgelaw09_CellWaits.l0] at h, fun _ _ _ _ _ _ _ _ _ _ _ _ r h => by simp [weighbridgelaw09_CellWaits.j1] at h⟩
  | k + 1 => by
    obtain ⟨ih0, ih1⟩ := weighbridgelaw09_CellWaits.mono_l k
    refine ⟨?_, ?_⟩
    · intro y0 y1 y2 y3 y4 y5 y6 y7 y8 y9 y10 y11 y12 y13 y14 y15 y16 y17 y18 y19 y20 y21 y22
      unfold weighbridgelaw09_CellWaits.l0
      repeat' first
      | (with_reducible exact ih0 _ _ _ _ _ _ _ _ _ _ _ _ _ _ _ _ _ _ _ _ _ _ _)
      | (with_reducible exact ih1 _ _ _ _ _ _ _ _ _ _ _ _)
      | (with_reducible exact cell_Cell_Room.mono _ _ _ _ _ _ _ _ _ _)
      | (with_reducible exact cell_Cell_Take.mono _ _ _ _ _ _ _ _ _ _ _)
      | (with_reducible exact cell_Of.mono _ _ _ _ _ _ _ _ _ _)
      | (with_reducible exact weighbridgelaw09_fit.mono _)
      | (with_reducible exact LeO.refl _)
      | (with_reducible exact LeO.none _)
      | (with_reducible refine LeO.ite ?_ ?_)
      | (with_reducible refine LeO.bind ?_ (fun _ => ?_))
      | exact ih0 _ _ _ _ _ _ _ _ _ _ _ _ _ _ _ _ _ _ _ _ _ _ _
      | exact ih1 _ _ _ _ _ _ _ _ _ _ _ _
      | exact cell_Cell_Room.mono _ _ _ _ _ _ _ _ _ _
      | exact cell_Cell_Take.mono _ _ _ _ _ _ _ _ _ _ _
      | exact cell_Of.mono _ _ _ _ _ _ _ _ _ _
      | exact weighbridgelaw09_fit.mono _
      | exact LeO.none _
      | refine LeO.ite ?_ ?_
      | refine LeO.bind ?_ (fun _ => ?_)
    · intro y0 y1 y2 y3 y4 y5 y6 y7 y8 y9 y10 y11
      unfold weighbridgelaw09_CellWaits.j1
      repeat' first
      | (with_reducible exact ih0 _ _ _ _ _ _ _ _ _ _ _ _ _ _ _ _ _ _ _ _ _ _ _)
      | (with_reducible exact ih1 _ _ _ _ _ _ _ _ _ _ _ _)
      | (with_reducible exact cell_Cell_Room.mono _ _ _ _ _ _ _ _ _ _)
      | (with_reducible exact cell_Cell_Take.mono _ _ _ _ _ _ _ _ _ _ _)
      | (with_reducible exact cell_Of.mono _ _ _ _ _ _ _ _ _ _)
      | (with_reducible exact weighbridgelaw09_fit.mono _)
      | (with_reducible exact LeO.refl _)
      | (with_reducible exact LeO.none _)
      | (with_reducible refine LeO.ite ?_ ?_)
      | (with_reducible refine LeO.bind ?_ (fun _ => ?_))
      | exact ih0 _ _ _ _ _ _ _ _ _ _ _ _ _ _ _ _ _ _ _ _ _ _ _
      | exact ih1 _ _ _ _ _ _ _ _ _ _ _ _
      | exact cell_Cell_Room.mono _ _ _ _ _ _ _ _ _ _
      | exact cell_Cell_Take.mono _ _ _ _ _ _ _ _ _ _ _
      | exact cell_Of.mono _ _ _ _ _ _ _ _ _ _
      | exact weighbridgelaw09_fit.mono _
      | exact LeO.none _
      | refine LeO.ite ?_ ?_
      | refine LeO.bind ?_ (fun _ => ?_)
theorem weighbridgelaw09_CellWaits.mono : ∀ a0 a1 a2 a3 a4 a5 k, LeO (weighbridgelaw09_CellWaits.f k a0 a1 a2 a3 a4 a5) (weighbridgelaw09_CellWaits.f (k + 1) a0 a1 a2 a3 a4 a5) := by
  intro a0 a1 a2 a3 a4 a5 k
  obtain ⟨ih0, ih1⟩ := weighbridgelaw09_CellWaits.mono_l k
  unfold weighbridgelaw09_CellWaits.f
  repeat' first
      | (with_reducible exact ih0 _ _ _ _ _ _ _ _ _ _ _ _ _ _ _ _ _ _ _ _ _ _ _)
      | (with_reducible exact ih1 _ _ _ _ _ _ _ _ _ _ _ _)
      | (with_reducible exact cell_Cell_Room.mono _ _ _ _ _ _ _ _ _ _)
      | (with_reducible exact cell_Cell_Take.mono _ _ _ _ _ _ _ _ _ _ _)
      | (with_reducible exact cell_Of.mono _ _ _ _ _ _ _ _ _ _)
      | (with_reducible exact weighbridgelaw09_fit.mono _)
      | (with_reducible exact LeO.refl _)
      | (with_reducible exact LeO.none _)
      | (with_reducible refine LeO.ite ?_ ?_)
      | (with_reducible refine LeO.bind ?_ (fun _ => ?_))
      | exact ih0 _ _ _ _ _ _ _ _ _ _ _ _ _ _ _ _ _ _ _ _ _ _ _
      | exact ih1 _ _ _ _ _ _ _ _ _ _ _ _
      | exact cell_Cell_Room.mono _ _ _ _ _ _ _ _ _ _
      | exact cell_Cell_Take.mono _ _ _ _ _ _ _ _ _ _ _
      | exact cell_Of.mono _ _ _ _ _ _ _ _ _ _
      | exact weighbridgelaw09_fit.mono _
      | exact LeO.none _
      | refine LeO.ite ?_ ?_
      | refine LeO.bind ?_ (fun _ => ?_)
def weighbridgelaw09_CellWaits.T14 : Bool × List (List Nat × List Nat) := (true, [([], []), ([], []), ([], []), ([2], [2]), ([3], [3]), ([], []), ([5], [5]), ([4, 6], [4, 6]), ([7], [7]), ([0, 1, 8], [0, 1, 8])])
def weighbridgelaw09_CellWaits.B14 : List Nat := [0, 0, 0, 4, 12, 0, 32, 124, 252, 511]
theorem weighbridgelaw09_CellWaits.tab14 : rtab .any (opsOf Try.f5 14) = weighbridgelaw09_CellWaits.T14 := by kernel_rfl
theorem weighbridgelaw09_CellWaits.bits14 : waitsOk weighbridgelaw09_CellWaits.T14.2 weighbridgelaw09_CellWaits.B14 = true := by kernel_rfl
set_option maxHeartbeats 8000000 in
set_option maxRecDepth 100000 in
theorem weighbridgelaw09_CellWaits.calls (k : Nat) (a0_0 : Int) (a0_1 : Int) (a0_2 : Int) (a1_0 : Int) (a1_1 : Int) (A2 : Option Addr) (c2 : Nat) (l2 : List (S40)) (r : Bool) (w : World) (hr2 : Kd.C k40 w A2 l2.length l2) (hc2 : l2.length ≤ c2) (hr_ : Aside0 (r = true)) (h : weighbridgelaw09_CellWaits.f k a0_0 a0_1 a0_2 a1_0 a1_1 l2 = some r) :
    Calls Try.prog 5 #[.agg #[.int .i64 a0_0, .int .i64 a0_1, .int .i64 a0_2], .agg #[.int .i64 a1_0, .int .i64 a1_1], .slice A2 l2.length c2] w fun e w' => e = .returned (.bool r) ∧ Below w.heap.size w w' := by
  have hu23 := Try.underlying23
  have hu24 := Try.underlying24
  have hu28 := Try.underlying28
  have hu31 := Try.underlying31
  have hu36 := Try.underlying36
  have hu40 := Try.underlying40
  have HR2 := Aside0.mk hr2
  have HC2 := Aside0.mk hc2
  clear hr2 hc2
  have HB := Aside0.mk (Below.refl w.heap.size w)
  have H : ((weighbridgelaw09_fit.f k).bind fun t148 => (if t148 = true then (if (l2.length : Int) > 100 then (some true) else ((weighbridgelaw09_Plan_Rule.f a0_0 a0_1 a0_2).bind fun bt149 => ((cell_Of.f k bt149.1 bt149.2.1 bt149.2.2.1 bt149.2.2.2.1 bt149.2.2.2.2.1 bt149.2.2.2.2.2.1 bt149.2.2.2.2.2.2.1 bt149.2.2.2.2.2.2.2.1 bt149.2.2.2.2.2.2.2.2).bind fun bt159 => (if (wrap64 (bt149.1 + 1)) = 0 then (none) else ((cell_New.f 3 (Int.tmod (Go.bits .and .i64 a1_0 63) (wrap64 (bt149.1 + 1)))).bind fun bt164 => (weighbridgelaw09_CellWaits.l0 k 3 l2 (l2.length : Int) 0 a1_0 a1_1 bt149.1 bt149.2.1 bt149.2.2.1 bt149.2.2.2.1 bt149.2.2.2.2.1 bt149.2.2.2.2.2.1 bt149.2.2.2.2.2.2.1 bt149.2.2.2.2.2.2.2.1 bt149.2.2.2.2.2.2.2.2 bt159.1 bt159.2.1 bt159.2.2.1 bt159.2.2.2 bt164.1 bt164.2.1 bt164.2.2.1 bt164.2.2.2)))))) else (some false))) = some r := h
  clear h
  replace H := Option.bind_eq_some_iff.mp H
  obtain ⟨t148, A40, H⟩ := H
  replace H : (if t148 = true then (if (l2.length : Int) > 100 then (some true) else ((weighbridgelaw09_Plan_Rule.f a0_0 a0_1 a0_2).bind fun bt149 => ((cell_Of.f k bt149.1 bt149.2.1 bt149.2.2.1 bt149.2.2.2.1 bt149.2.2.2.2.1 bt149.2.2.2.2.2.1 bt149.2.2.2.2.2.2.1 bt149.2.2.2.2.2.2.2.1 bt149.2.2.2.2.2.2.2.2).bind fun bt159 => (if (wrap64 (bt149.1 + 1)) = 0 then (none) else ((cell_New.f 3 (Int.tmod (Go.bits .and .i64 a1_0 63) (wrap64 (bt149.1 + 1)))).bind fun bt164 => (weighbridgelaw09_CellWaits.l0 k 3 l2 (l2.length : Int) 0 a1_0 a1_1 bt149.1 bt149.2.1 bt149.2.2.1 bt149.2.2.2.1 bt149.2.2.2.2.1 bt149.2.2.2.2.2.1 bt149.2.2.2.2.2.2.1 bt149.2.2.2.2.2.2.2.1 bt149.2.2.2.2.2.2.2.2 bt159.1 bt159.2.1 bt159.2.2.1 bt159.2.2.2 bt164.1 bt164.2.1 bt164.2.2.1 bt164.2.2.2)))))) else (some false)) = some r := H
  have A4 := Aside0.mk A40
  clear A40
  by_cases c5 : t148 = true
  · subst c5
    have H1 : (if (l2.length : Int) > 100 then (some true) else ((weighbridgelaw09_Plan_Rule.f a0_0 a0_1 a0_2).bind fun bt149 => ((cell_Of.f k bt149.1 bt149.2.1 bt149.2.2.1 bt149.2.2.2.1 bt149.2.2.2.2.1 bt149.2.2.2.2.2.1 bt149.2.2.2.2.2.2.1 bt149.2.2.2.2.2.2.2.1 bt149.2.2.2.2.2.2.2.2).bind fun bt159 => (if (wrap64 (bt149.1 + 1)) = 0 then (none) else ((cell_New.f 3 (Int.tmod (Go.bits .and .i64 a1_0 63) (wrap64 (bt149.1 + 1)))).bind fun bt164 => (weighbridgelaw09_CellWaits.l0 k 3 l2 (l2.length : Int) 0 a1_0 a1_1 bt149.1 bt149.2.1 bt149.2.2.1 bt149.2.2.2.1 bt149.2.2.2.2.1 bt149.2.2.2.2.2.1 bt149.2.2.2.2.2.2.1 bt149.2.2.2.2.2.2.2.1 bt149.2.2.2.2.2.2.2.2 bt159.1 bt159.2.1 bt159.2.2.1 bt159.2.2.2 bt164.1 bt164.2.1 bt164.2.2.1 bt164.2.2.2)))))) = some r := by rw [if_pos rfl] at H; exact H
    clear H
    have H := H1
    clear H1
    by_cases c6 : (l2.length : Int) > 100
    · rw [if_pos c6] at H
      have c6b0 : decide (100 < (l2.length : Int)) = true := decide_eq_true c6
      have c6b1 : decide (100 < l2.length) = true := decide_eq_true (by omega)
      clear c6
      obtain rfl := Option.some.inj H
      go_enter Try.func5, Try.ntmps5
      go_wp2_with (first | ((with_reducible refine gate_dst (N := 3) rfl ?_); refine box_event ?hg (N := 3) ?hd (cs := #[.int .i64 a0_0, .int .i64 a0_1, .int .i64 a0_2]) (t := 23) ?hr ?_; (case hd => rfl); (case hg => rfl); (case hr => first | (go_simp; done) | (go_simp; rfl)); intro gb146 hg w7 hbox hb; have n0_ := Aside0.mk (below_step (by repeat (first | (with_reducible first | exact HB.out | apply below_alloc | apply pw_below_drewN | apply below_drew1) | exact HB.out)) hb); have n1_ := Aside0.mk (hbox); have n2_ := Aside0.mk ((by rw [hg]; exact (below_size (by repeat (first | (with_reducible first | exact HB.out | apply below_alloc | apply pw_below_drewN | apply below_drew1) | exact HB.out))) : w.heap.size ≤ gb146)); have n3_ := Aside0.mk ((by rw [hg]; exact (below_size (by repeat (first | (with_reducible first | exact HB.out | apply below_alloc | apply pw_below_drewN | apply below_drew1) | exact HB.out))) : w.heap.size ≤ gb146)); clear HB; have HB := n0_; have BK146 := n1_; have GW146 := n2_; have GE146 := n3_; clear n0_ n1_ n2_ n3_; clear hb hbox hg) | ((with_reducible refine gate_dst (N := 4) rfl ?_); refine box_event ?hg (N := 4) ?hd (cs := #[.int .i64 a1_0, .int .i64 a1_1]) (t := 24) ?hr ?_; (case hd => rfl); (case hg => rfl); (case hr => first | (go_simp; done) | (go_simp; rfl)); intro gb147 hg w8 hbox hb; have n0_ := Aside0.mk (blk_below (g := gb146) (o := .cells #[.int .i64 a0_0, .int .i64 a0_1, .int .i64 a0_2] 23 (0, 0)) (by (with_reducible repeat (first | refine blk_drewN ?_ _ | refine blk_drew ?_ | refine blk_alloc ?_ _)); exact BK146.out) hb); have n1_ := Aside0.mk (below_step (by repeat (first | (with_reducible first | exact HB.out | apply below_alloc | apply pw_below_drewN | apply below_drew1 | refine below_set ?_ GE146.out) | exact HB.out)) hb); have n2_ := Aside0.mk (hbox); have n3_ := Aside0.mk ((by rw [hg]; exact (below_size (by repeat (first | (with_reducible first | exact HB.out | apply below_alloc | apply pw_below_drewN | apply below_drew1 | refine below_set ?_ GE146.out) | exact HB.out))) : w.heap.size ≤ gb147)); have n4_ := Aside0.mk ((by rw [hg]; exact (below_size (by repeat (first | (with_reducible first | exact HB.out | apply below_alloc | apply pw_below_drewN | apply below_drew1 | refine below_set ?_ GE146.out) | exact HB.out))) : w.heap.size ≤ gb147)); have n5_ := Aside0.mk ((by rw [hg]; exact Nat.ne_of_lt (blk_lt (g := gb146) (o := .cells #[.int .i64 a0_0, .int .i64 a0_1, .int .i64 a0_2] 23 (0, 0)) (by (with_reducible repeat (first | refine blk_drewN ?_ _ | refine blk_drew ?_ | refine blk_alloc ?_ _)); exact BK146.out)) : gb146 ≠ gb147)); have n6_ := Aside0.mk ((by rw [hg]; exact Nat.ne_of_gt (blk_lt (g := gb146) (o := .cells #[.int .i64 a0_0, .int .i64 a0_1, .int .i64 a0_2] 23 (0, 0)) (by (with_reducible repeat (first | refine blk_drewN ?_ _ | refine blk_drew ?_ | refine blk_alloc ?_ _)); exact BK146.out)) : gb147 ≠ gb146)); clear BK146; clear HB; have BK146 := n0_; have HB := n1_; have BK147 := n2_; have GW147 := n3_; have GE147 := n4_; have NB146_147 := n5_; have NB147_146 := n6_; clear n0_ n1_ n2_ n3_ n4_ n5_ n6_; clear hb hbox hg) | ((with_reducible refine gate_callee (f := 11) rfl ?_); refine goesL_ (some 16) rfl rfl Try.func11 (by kernel_rfl) rfl #[] rfl (by (try simp only [List.map_toArray, List.map_cons, List.map_nil]); first | done | rfl | (simp only [List.length_drop, List.length_take]; rfl)) ?_; (with_reducible refine (weighbridgelaw09_fit.calls k  true _ A4.out).mono ?_); rintro e w9 ⟨rfl, hb⟩; refine ⟨_, rfl, ?_⟩; have n0_ := Aside0.mk (blk_below (g := gb146) (o := .cells #[.int .i64 a0_0, .int .i64 a0_1, .int .i64 a0_2] 23 (0, 0)) (by (with_reducible repeat (first | refine blk_drewN ?_ _ | refine blk_drew ?_ | refine blk_alloc ?_ _)); exact BK146.out) hb); have n1_ := Aside0.mk (blk_below (g := gb147) (o := .cells #[.int .i64 a1_0, .int .i64 a1_1] 24 (0, 0)) (by (with_reducible repeat (first | refine blk_drewN ?_ _ | refine blk_drew ?_ | refine blk_alloc ?_ _)); exact BK147.out) hb); have n2_ := Aside0.mk (below_step (by repeat (first | (with_reducible first | exact HB.out | apply below_alloc | apply pw_below_drewN | apply below_drew1 | refine below_set ?_ GE146.out | refine below_set ?_ GE147.out) | exact HB.out)) hb); clear BK146; clear BK147; clear HB; have BK146 := n0_; have BK147 := n1_; have HB := n2_; clear n0_ n1_ n2_; (try clear hb); (try clear hb2); (try clear hk); (try clear hi)))
      go_ret
      exact ⟨by first | rfl | (simp [errW_none, errW_some] <;> rfl) | (simp [*, errW_none, errW_some] <;> rfl), by repeat (first | (with_reducible first | exact HB.out | apply below_alloc | apply pw_below_drewN | apply below_drew1 | refine below_set ?_ GE146.out | refine below_set ?_ GE147.out) | exact HB.out)⟩
    · rw [if_neg c6] at H
      have c6b0 : decide (100 < (l2.length : Int)) = false := decide_eq_false c6
      have c6b1 : decide (100 < l2.length) = false := decide_eq_false (by omega)
      clear c6
      replace H := Option.bind_eq_some_iff.mp H
      obtain ⟨⟨t149, t150, t151, t152, t153, t154, t155, t156, t157⟩, A100, H⟩ := H
      replace H : ((cell_Of.f k t149 t150 t151 t152 t153 t154 t155 t156 t157).bind fun bt159 => (if (wrap64 (t149 + 1)) = 0 then (none) else ((cell_New.f 3 (Int.tmod (Go.bits .and .i64 a1_0 63) (wrap64 (t149 + 1)))).bind fun bt164 => (weighbridgelaw09_CellWaits.l0 k 3 l2 (l2.length : Int) 0 a1_0 a1_1 t149 t150 t151 t152 t153 t154 t155 t156 t157 bt159.1 bt159.2.1 bt159.2.2.1 bt159.2.2.2 bt164.1 bt164.2.1 bt164.2.2.1 bt164.2.2.2)))) = some r := H
      have A10 := Aside0.mk A100
      clear A100
      replace H := Option.bind_eq_some_iff.mp H
      obtain ⟨⟨t159, t160, t161, t162⟩, A110, H⟩ := H
      replace H : (if (wrap64 (t149 + 1)) = 0 then (none) else ((cell_New.f 3 (Int.tmod (Go.bits .and .i64 a1_0 63) (wrap64 (t149 + 1)))).bind fun bt164 => (weighbridgelaw09_CellWaits.l0 k 3 l2 (l2.length : Int) 0 a1_0 a1_1 t149 t150 t151 t152 t153 t154 t155 t156 t157 t159 t160 t161 t162 bt164.1 bt164.2.1 bt164.2.2.1 bt164.2.2.2))) = some r := H
      have A11 := Aside0.mk A110
      clear A110
      by_cases c12 : (wrap64 (t149 + 1)) = 0
      · rw [if_pos c12] at H
        exact absurd H (by simp)
      · rw [if_neg c12] at H
        have c12b0 : ((wrap64 (t149 + 1)) == 0) = false := beq_eq_false_iff_ne.mpr c12
        have c12b1 : ((wrap64 (t149 + 1)) != 0) = true := bne_iff_ne.mpr c12
        replace H := Option.bind_eq_some_iff.mp H
        obtain ⟨⟨t164, t165, t166, t167⟩, A130, H⟩ := H
        replace H : (weighbridgelaw09_CellWaits.l0 k 3 l2 (l2.length : Int) 0 a1_0 a1_1 t149 t150 t151 t152 t153 t154 t155 t156 t157 t159 t160 t161 t162 t164 t165 t166 t167) = some r := H
        have A13 := Aside0.mk A130
        clear A130
        have H' := Aside0.mk H
        clear H
        go_enter Try.func5, Try.ntmps5
        go_wp2_with (first | ((with_reducible refine gate_dst (N := 3) rfl ?_); refine box_event ?hg (N := 3) ?hd (cs := #[.int .i64 a0_0, .int .i64 a0_1, .int .i64 a0_2]) (t := 23) ?hr ?_; (case hd => rfl); (case hg => rfl); (case hr => first | (go_simp; done) | (go_simp; rfl)); intro gb146 hg w14 hbox hb; have n0_ := Aside0.mk (below_step (by repeat (first | (with_reducible first | exact HB.out | apply below_alloc | apply pw_below_drewN | apply below_drew1) | exact HB.out)) hb); have n1_ := Aside0.mk (hbox); have n2_ := Aside0.mk ((by rw [hg]; exact (below_size (by repeat (first | (with_reducible first | exact HB.out | apply below_alloc | apply pw_below_drewN | apply below_drew1) | exact HB.out))) : w.heap.size ≤ gb146)); have n3_ := Aside0.mk ((by rw [hg]; exact (below_size (by repeat (first | (with_reducible first | exact HB.out | apply below_alloc | apply pw_below_drewN | apply below_drew1) | exact HB.out))) : w.heap.size ≤ gb146)); clear HB; have HB := n0_; have BK146 := n1_; have GW146 := n2_; have GE146 := n3_; clear n0_ n1_ n2_ n3_; clear hb hbox hg) | ((with_reducible refine gate_dst (N := 4) rfl ?_); refine box_event ?hg (N := 4) ?hd (cs := #[.int .i64 a1_0, .int .i64 a1_1]) (t := 24) ?hr ?_; (case hd => rfl); (case hg => rfl); (case hr => first | (go_simp; done) | (go_simp; rfl)); intro gb147 hg w15 hbox hb; have n0_ := Aside0.mk (blk_below (g := gb146) (o := .cells #[.int .i64 a0_0, .int .i64 a0_1, .int .i64 a0_2] 23 (0, 0)) (by (with_reducible repeat (first | refine blk_drewN ?_ _ | refine blk_drew ?_ | refine blk_alloc ?_ _)); exact BK146.out) hb); have n1_ := Aside0.mk (below_step (by repeat (first | (with_reducible first | exact HB.out | apply below_alloc | apply pw_below_drewN | apply below_drew1 | refine below_set ?_ GE146.out) | exact HB.out)) hb); have n2_ := Aside0.mk (hbox); have n3_ := Aside0.mk ((by rw [hg]; exact (below_size (by repeat (first | (with_reducible first | exact HB.out | apply below_alloc | apply pw_below_drewN | apply below_drew1 | refine below_set ?_ GE146.out) | exact HB.out))) : w.heap.size ≤ gb147)); have n4_ := Aside0.mk ((by rw [hg]; exact (below_size (by repeat (first | (with_reducible first | exact HB.out | apply below_alloc | apply pw_below_drewN | apply below_drew1 | refine below_set ?_ GE146.out) | exact HB.out))) : w.heap.size ≤ gb147)); have n5_ := Aside0.mk ((by rw [hg]; exact Nat.ne_of_lt (blk_lt (g := gb146) (o := .cells #[.int .i64 a0_0, .int .i64 a0_1, .int .i64 a0_2] 23 (0, 0)) (by (with_reducible repeat (first | refine blk_drewN ?_ _ | refine blk_drew ?_ | refine blk_alloc ?_ _)); exact BK146.out)) : gb146 ≠ gb147)); have n6_ := Aside0.mk ((by rw [hg]; exact Nat.ne_of_gt (blk_lt (g := gb146) (o := .cells #[.int .i64 a0_0, .int .i64 a0_1, .int .i64 a0_2] 23 (0, 0)) (by (with_reducible repeat (first | refine blk_drewN ?_ _ | refine blk_drew ?_ | refine blk_alloc ?_ _)); exact BK146.out)) : gb147 ≠ gb146)); clear BK146; clear HB; have BK146 := n0_; have HB := n1_; have BK147 := n2_; have GW147 := n3_; have GE147 := n4_; have NB146_147 := n5_; have NB147_146 := n6_; clear n0_ n1_ n2_ n3_ n4_ n5_ n6_; clear hb hbox hg) | ((with_reducible refine gate_callee (f := 11) rfl ?_); refine goesL_ (some 16) rfl rfl Try.func11 (by kernel_rfl) rfl #[] rfl (by (try simp only [List.map_toArray, List.map_cons, List.map_nil]); first | done | rfl | (simp only [List.length_drop, List.length_take]; rfl)) ?_; (with_reducible refine (weighbridgelaw09_fit.calls k  true _ A4.out).mono ?_); rintro e w16 ⟨rfl, hb⟩; refine ⟨_, rfl, ?_⟩; have n0_ := Aside0.mk (blk_below (g := gb146) (o := .cells #[.int .i64 a0_0, .int .i64 a0_1, .int .i64 a0_2] 23 (0, 0)) (by (with_reducible repeat (first | refine blk_drewN ?_ _ | refine blk_drew ?_ | refine blk_alloc ?_ _)); exact BK146.out) hb); have n1_ := Aside0.mk (blk_below (g := gb147) (o := .cells #[.int .i64 a1_0, .int .i64 a1_1] 24 (0, 0)) (by (with_reducible repeat (first | refine blk_drewN ?_ _ | refine blk_drew ?_ | refine blk_alloc ?_ _)); exact BK147.out) hb); have n2_ := Aside0.mk (below_step (by repeat (first | (with_reducible first | exact HB.out | apply below_alloc | apply pw_below_drewN | apply below_drew1 | refine below_set ?_ GE146.out | refine below_set ?_ GE147.out) | exact HB.out)) hb); clear BK146; clear BK147; clear HB; have BK146 := n0_; have BK147 := n1_; have HB := n2_; clear n0_ n1_ n2_; (try clear hb); (try clear hb2); (try clear hk); (try clear hi); have hnb17 := NB146_147.out; have hnc17 := NB147_146.out; have hcz18_0 : w16.cell? ⟨gb146, 0, none⟩ = some (.int .i64 a0_0) := (blk_cell BK146.out 0).trans rfl; have hcz18_1 : w16.cell? ⟨gb146, 1, none⟩ = some (.int .i64 a0_1) := (blk_cell BK146.out 1).trans rfl; have hcz18_2 : w16.cell? ⟨gb146, 2, none⟩ = some (.int .i64 a0_2) := (blk_cell BK146.out 2).trans rfl; have hfz18_0 := blk_frozen BK146.out 0; have hfz18_1 := blk_frozen BK146.out 1; have hfz18_2 := blk_frozen BK146.out 2) | ((with_reducible refine gate_callee (f := 12) rfl ?_); refine goesL_ (some 22) rfl rfl Try.func12 (by kernel_rfl) rfl #[.agg #[.int .i64 a0_0, .int .i64 a0_1, .int .i64 a0_2]] rfl (by (try simp only [List.map_toArray, List.map_cons, List.map_nil]); first | done | rfl | (simp only [List.length_drop, List.length_take]; rfl)) ?_; (with_reducible refine (weighbridgelaw09_Plan_Rule.calls a0_0 a0_1 a0_2 t149 t150 t151 t152 t153 t154 t155 t156 t157 _ A10.out).mono ?_); rintro e w19 ⟨rfl, hb⟩; refine ⟨_, rfl, ?_⟩; have n0_ := Aside0.mk (blk_below (g := gb146) (o := .cells #[.int .i64 a0_0, .int .i64 a0_1, .int .i64 a0_2] 23 (0, 0)) (by (with_reducible repeat (first | refine blk_drewN ?_ _ | refine blk_drew ?_ | refine blk_alloc ?_ _)); exact BK146.out) hb); have n1_ := Aside0.mk (blk_below (g := gb147) (o := .cells #[.int .i64 a1_0, .int .i64 a1_1] 24 (0, 0)) (by (with_reducible repeat (first | refine blk_drewN ?_ _ | refine blk_drew ?_ | refine blk_alloc ?_ _)); exact BK147.out) hb); have n2_ := Aside0.mk (below_step (by repeat (first | (with_reducible first | exact HB.out | apply below_alloc | apply pw_below_drewN | apply below_drew1 | refine below_set ?_ GE146.out | refine below_set ?_ GE147.out) | exact HB.out)) hb); clear BK146; clear BK147; clear HB; have BK146 := n0_; have BK147 := n1_; have HB := n2_; clear n0_ n1_ n2_; (try clear hb); (try clear hb2); (try clear hk); (try clear hi)) | ((with_reducible refine gate_dst (N := 7) rfl ?_); refine box_event ?hg (N := 7) ?hd (cs := #[.int .i64 0, .int .i64 0, .int .i64 0, .int .i64 0, .int .i64 0, .int .i64 0, .int .i64 0, .int .i64 0, .bool false]) (t := 28) ?hr ?_; (case hd => rfl); (case hg => rfl); (case hr => first | (go_simp; done) | (go_simp; rfl)); intro gb158 hg w20 hbox hb; have n0_ := Aside0.mk (blk_below (g := gb146) (o := .cells #[.int .i64 a0_0, .int .i64 a0_1, .int .i64 a0_2] 23 (0, 0)) (by (with_reducible repeat (first | refine blk_drewN ?_ _ | refine blk_drew ?_ | refine blk_alloc ?_ _)); exact BK146.out) hb); have n1_ := Aside0.mk (blk_below (g := gb147) (o := .cells #[.int .i64 a1_0, .int .i64 a1_1] 24 (0, 0)) (by (with_reducible repeat (first | refine blk_drewN ?_ _ | refine blk_drew ?_ | refine blk_alloc ?_ _)); exact BK147.out) hb); have n2_ := Aside0.mk (below_step (by repeat (first | (with_reducible first | exact HB.out | apply below_alloc | apply pw_below_drewN | apply below_drew1 | refine below_set ?_ GE146.out | refine below_set ?_ GE147.out) | exact HB.out)) hb); have n3_ := Aside0.mk (hbox); have n4_ := Aside0.mk ((by rw [hg]; exact (below_size (by repeat (first | (with_reducible first | exact HB.out | apply below_alloc | apply pw_below_drewN | apply below_drew1 | refine below_set ?_ GE146.out | refine below_set ?_ GE147.out) | exact HB.out))) : w.heap.size ≤ gb158)); have n5_ := Aside0.mk ((by rw [hg]; exact (below_size (by repeat (first | (with_reducible first | exact HB.out | apply below_alloc | apply pw_below_drewN | apply below_drew1 | refine below_set ?_ GE146.out | refine below_set ?_ GE147.out) | exact HB.out))) : w.heap.size ≤ gb158)); have n6_ := Aside0.mk ((by rw [hg]; exact Nat.ne_of_lt (blk_lt (g := gb146) (o := .cells #[.int .i64 a0_0, .int .i64 a0_1, .int .i64 a0_2] 23 (0, 0)) (by (with_reducible repeat (first | refine blk_drewN ?_ _ | refine blk_drew ?_ | refine blk_alloc ?_ _)); exact BK146.out)) : gb146 ≠ gb158)); have n7_ := Aside0.mk ((by rw [hg]; exact Nat.ne_of_gt (blk_lt (g := gb146) (o := .cells #[.int .i64 a0_0, .int .i64 a0_1, .int .i64 a0_2] 23 (0, 0)) (by (with_reducible repeat (first | refine blk_drewN ?_ _ | refine blk_drew ?_ | refine blk_alloc ?_ _)); exact BK146.out)) : gb158 ≠ gb146)); have n8_ := Aside0.mk ((by rw [hg]; exact Nat.ne_of_lt (blk_lt (g := gb147) (o := .cells #[.int .i64 a1_0, .int .i64 a1_1] 24 (0, 0)) (by (with_reducible repeat (first | refine blk_drewN ?_ _ | refine blk_drew ?_ | refine blk_alloc ?_ _)); exact BK147.out)) : gb147 ≠ gb158)); have n9_ := Aside0.mk ((by rw [hg]; exact Nat.ne_of_gt (blk_lt (g := gb147) (o := .cells #[.int .i64 a1_0, .int .i64 a1_1] 24 (0, 0)) (by (with_reducible repeat (first | refine blk_drewN ?_ _ | refine blk_drew ?_ | refine blk_alloc ?_ _)); exact BK147.out)) : gb158 ≠ gb147)); clear BK146; clear BK147; clear HB; have BK146 := n0_; have BK147 := n1_; have HB := n2_; have BK158 := n3_; have GW158 := n4_; have GE158 := n5_; have NB146_158 := n6_; have NB158_146 := n7_; have NB147_158 := n8_; have NB158_147 := n9_; clear n0_ n1_ n2_ n3_ n4_ n5_ n6_ n7_ n8_ n9_; clear hb hbox hg; have hnb21 := NB158_146.out; have hnc21 := NB146_158.out; have hnb22 := NB158_147.out; have hnc22 := NB147_158.out; have hcz23_0 : w20.cell? ⟨gb158, 0, none⟩ = some (.int .i64 0) := (blk_cell BK158.out 0).trans rfl; have hcz23_1 : w20.cell? ⟨gb158, 1, none⟩ = some (.int .i64 0) := (blk_cell BK158.out 1).trans rfl; have hcz23_2 : w20.cell? ⟨gb158, 2, none⟩ = some (.int .i64 0) := (blk_cell BK158.out 2).trans rfl; have hcz23_3 : w20.cell? ⟨gb158, 3, none⟩ = some (.int .i64 0) := (blk_cell BK158.out 3).trans rfl; have hcz23_4 : w20.cell? ⟨gb158, 4, none⟩ = some (.int .i64 0) := (blk_cell BK158.out 4).trans rfl; have hcz23_5 : w20.cell? ⟨gb158, 5, none⟩ = some (.int .i64 0) := (blk_cell BK158.out 5).trans rfl; have hcz23_6 : w20.cell? ⟨gb158, 6, none⟩ = some (.int .i64 0) := (blk_cell BK158.out 6).trans rfl; have hcz23_7 : w20.cell? ⟨gb158, 7, none⟩ = some (.int .i64 0) := (blk_cell BK158.out 7).trans rfl; have hcz23_8 : w20.cell? ⟨gb158, 8, none⟩ = some (.bool false) := (blk_cell BK158.out 8).trans rfl; have hfz23_0 := blk_frozen BK158.out 0; have hfz23_1 := blk_frozen BK158.out 1; have hfz23_2 := blk_frozen BK158.out 2; have hfz23_3 := blk_frozen BK158.out 3; have hfz23_4 := blk_frozen BK158.out 4; have hfz23_5 := blk_frozen BK158.out 5; have hfz23_6 := blk_frozen BK158.out 6; have hfz23_7 := blk_frozen BK158.out 7; have hfz23_8 := blk_frozen BK158.out 8) | ((with_reducible refine gate_callee (f := 13) rfl ?_); refine goesL_ (some 24) rfl rfl Try.func13 (by kernel_rfl) rfl #[.agg #[.int .i64 t149, .int .i64 t150, .int .i64 t151, .int .i64 t152, .int .i64 t153, .int .i64 t154, .int .i64 t155, .int .i64 t156, .bool t157]] rfl (by (try simp only [List.map_toArray, List.map_cons, List.map_nil]); first | done | rfl | (simp only [List.length_drop, List.length_take]; rfl)) ?_; (with_reducible refine (cell_Of.calls k t149 t150 t151 t152 t153 t154 t155 t156 t157 t159 t160 t161 t162 _ A11.out).mono ?_); rintro e w24 ⟨rfl, hb⟩; refine ⟨_, rfl, ?_⟩; have n0_ := Aside0.mk (blk_below (g := gb146) (o := .cells #[.int .i64 a0_0, .int .i64 a0_1, .int .i64 a0_2] 23 (0, 0)) (by (with_reducible repeat (first | refine blk_drewN ?_ _ | refine blk_drew ?_ | refine blk_alloc ?_ _)); refine blk_far ?_ NB146_158.out _; (with_reducible repeat (first | refine blk_drewN ?_ _ | refine blk_drew ?_ | refine blk_alloc ?_ _)); refine blk_far ?_ NB146_158.out _; (with_reducible repeat (first | refine blk_drewN ?_ _ | refine blk_drew ?_ | refine blk_alloc ?_ _)); refine blk_far ?_ NB146_158.out _; (with_reducible repeat (first | refine blk_drewN ?_ _ | refine blk_drew ?_ | refine blk_alloc ?_ _)); refine blk_far ?_ NB146_158.out _; (with_reducible repeat (first | refine blk_drewN ?_ _ | refine blk_drew ?_ | refine blk_alloc ?_ _)); refine blk_far ?_ NB146_158.out _; (with_reducible repeat (first | refine blk_drewN ?_ _ | refine blk_drew ?_ | refine blk_alloc ?_ _)); refine blk_far ?_ NB146_158.out _; (with_reducible repeat (first | refine blk_drewN ?_ _ | refine blk_drew ?_ | refine blk_alloc ?_ _)); refine blk_far ?_ NB146_158.out _; (with_reducible repeat (first | refine blk_drewN ?_ _ | refine blk_drew ?_ | refine blk_alloc ?_ _)); refine blk_far ?_ NB146_158.out _; (with_reducible repeat (first | refine blk_drewN ?_ _ | refine blk_drew ?_ | refine blk_alloc ?_ _)); refine blk_far ?_ NB146_158.out _; (with_reducible repeat (first | refine blk_drewN ?_ _ | refine blk_drew ?_ | refine blk_alloc ?_ _)); exact BK146.out) hb); have n1_ := Aside0.mk (blk_below (g := gb147) (o := .cells #[.int .i64 a1_0, .int .i64 a1_1] 24 (0, 0)) (by (with_reducible repeat (first | refine blk_drewN ?_ _ | refine blk_drew ?_ | refine blk_alloc ?_ _)); refine blk_far ?_ NB147_158.out _; (with_reducible repeat (first | refine blk_drewN ?_ _ | refine blk_drew ?_ | refine blk_alloc ?_ _)); refine blk_far ?_ NB147_158.out _; (with_reducible repeat (first | refine blk_drewN ?_ _ | refine blk_drew ?_ | refine blk_alloc ?_ _)); refine blk_far ?_ NB147_158.out _; (with_reducible repeat (first | refine blk_drewN ?_ _ | refine blk_drew ?_ | refine blk_alloc ?_ _)); refine blk_far ?_ NB147_158.out _; (with_reducible repeat (first | refine blk_drewN ?_ _ | refine blk_drew ?_ | refine blk_alloc ?_ _)); refine blk_far ?_ NB147_158.out _; (with_reducible repeat (first | refine blk_drewN ?_ _ | refine blk_drew ?_ | refine blk_alloc ?_ _)); refine blk_far ?_ NB147_158.out _; (with_reducible repeat (first | refine blk_drewN ?_ _ | refine blk_drew ?_ | refine blk_alloc ?_ _)); refine blk_far ?_ NB147_158.out _; (with_reducible repeat (first | refine blk_drewN ?_ _ | refine blk_drew ?_ | refine blk_alloc ?_ _)); refine blk_far ?_ NB147_158.out _; (with_reducible repeat (first | refine blk_drewN ?_ _ | refine blk_drew ?_ | refine blk_alloc ?_ _)); refine blk_far ?_ NB147_158.out _; (with_reducible repeat (first | refine blk_drewN ?_ _ | refine blk_drew ?_ | refine blk_alloc ?_ _)); exact BK147.out) hb); have n2_ := Aside0.mk (blk_below (g := gb158) (o := .cells #[.int .i64 t149, .int .i64 t150, .int .i64 t151, .int .i64 t152, .int .i64 t153, .int .i64 t154, .int .i64 t155, .int .i64 t156, .bool t157] 28 (0, 0)) (by (with_reducible repeat (first | refine blk_drewN ?_ _ | refine blk_drew ?_ | refine blk_alloc ?_ _)); refine blk_put (cs := #[.int .i64 t149, .int .i64 t150, .int .i64 t151, .int .i64 t152, .int .i64 t153, .int .i64 t154, .int .i64 t155, .int .i64 t156, .bool false]) ?_ 8 _ rfl; (with_reducible repeat (first | refine blk_drewN ?_ _ | refine blk_drew ?_ | refine blk_alloc ?_ _)); refine blk_put (cs := #[.int .i64 t149, .int .i64 t150, .int .i64 t151, .int .i64 t152, .int .i64 t153, .int .i64 t154, .int .i64 t155, .int .i64 0, .bool false]) ?_ 7 _ rfl; (with_reducible repeat (first | refine blk_drewN ?_ _ | refine blk_drew ?_ | refine blk_alloc ?_ _)); refine blk_put (cs := #[.int .i64 t149, .int .i64 t150, .int .i64 t151, .int .i64 t152, .int .i64 t153, .int .i64 t154, .int .i64 0, .int .i64 0, .bool false]) ?_ 6 _ rfl; (with_reducible repeat (first | refine blk_drewN ?_ _ | refine blk_drew ?_ | refine blk_alloc ?_ _)); refine blk_put (cs := #[.int .i64 t149, .int .i64 t150, .int .i64 t151, .int .i64 t152, .int .i64 t153, .int .i64 0, .int .i64 0, .int .i64 0, .bool false]) ?_ 5 _ rfl; (with_reducible repeat (first | refine blk_drewN ?_ _ | refine blk_drew ?_ | refine blk_alloc ?_ _)); refine blk_put (cs := #[.int .i64 t149, .int .i64 t150, .int .i64 t151, .int .i64 t152, .int .i64 0, .int .i64 0, .int .i64 0, .int .i64 0, .bool false]) ?_ 4 _ rfl; (with_reducible repeat (first | refine blk_drewN ?_ _ | refine blk_drew ?_ | refine blk_alloc ?_ _)); refine blk_put (cs := #[.int .i64 t149, .int .i64 t150, .int .i64 t151, .int .i64 0, .int .i64 0, .int .i64 0, .int .i64 0, .int .i64 0, .bool false]) ?_ 3 _ rfl; (with_reducible repeat (first | refine blk_drewN ?_ _ | refine blk_drew ?_ | refine blk_alloc ?_ _)); refine blk_put (cs := #[.int .i64 t149, .int .i64 t150, .int .i64 0, .int .i64 0, .int .i64 0, .int .i64 0, .int .i64 0, .int .i64 0, .bool false]) ?_ 2 _ rfl; (with_reducible repeat (first | refine blk_drewN ?_ _ | refine blk_drew ?_ | refine blk_alloc ?_ _)); refine blk_put (cs := #[.int .i64 t149, .int .i64 0, .int .i64 0, .int .i64 0, .int .i64 0, .int .i64 0, .int .i64 0, .int .i64 0, .bool false]) ?_ 1 _ rfl; (with_reducible repeat (first | refine blk_drewN ?_ _ | refine blk_drew ?_ | refine blk_alloc ?_ _)); refine blk_put (cs := #[.int .i64 0, .int .i64 0, .int .i64 0, .int .i64 0, .int .i64 0, .int .i64 0, .int .i64 0, .int .i64 0, .bool false]) ?_ 0 _ rfl; (with_reducible repeat (first | refine blk_drewN ?_ _ | refine blk_drew ?_ | refine blk_alloc ?_ _)); exact BK158.out) hb); have n3_ := Aside0.mk (below_step (by repeat (first | (with_reducible first | exact HB.out | apply below_alloc | apply pw_below_drewN | apply below_drew1 | refine below_set ?_ GE146.out | refine below_set ?_ GE147.out | refine below_set ?_ GE158.out) | exact HB.out)) hb); clear BK146; clear BK147; clear BK158; clear HB; have BK146 := n0_; have BK147 := n1_; have BK158 := n2_; have HB := n3_; clear n0_ n1_ n2_ n3_; (try clear hb); (try clear hb2); (try clear hk); (try clear hi)) | ((with_reducible refine gate_dst (N := 8) rfl ?_); refine box_event ?hg (N := 8) ?hd (cs := #[.int .i64 0, .int .i64 0, .int .i64 0, .int .i64 0]) (t := 31) ?hr ?_; (case hd => rfl); (case hg => rfl); (case hr => first | (go_simp; done) | (go_simp; rfl)); intro gb163 hg w25 hbox hb; have n0_ := Aside0.mk (blk_below (g := gb146) (o := .cells #[.int .i64 a0_0, .int .i64 a0_1, .int .i64 a0_2] 23 (0, 0)) (by (with_reducible repeat (first | refine blk_drewN ?_ _ | refine blk_drew ?_ | refine blk_alloc ?_ _)); exact BK146.out) hb); have n1_ := Aside0.mk (blk_below (g := gb147) (o := .cells #[.int .i64 a1_0, .int .i64 a1_1] 24 (0, 0)) (by (with_reducible repeat (first | refine blk_drewN ?_ _ | refine blk_drew ?_ | refine blk_alloc ?_ _)); exact BK147.out) hb); have n2_ := Aside0.mk (blk_below (g := gb158) (o := .cells #[.int .i64 t149, .int .i64 t150, .int .i64 t151, .int .i64 t152, .int .i64 t153, .int .i64 t154, .int .i64 t155, .int .i64 t156, .bool t157] 28 (0, 0)) (by (with_reducible repeat (first | refine blk_drewN ?_ _ | refine blk_drew ?_ | refine blk_alloc ?_ _)); exact BK158.out) hb); have n3_ := Aside0.mk (below_step (by repeat (first | (with_reducible first | exact HB.out | apply below_alloc | apply pw_below_drewN | apply below_drew1 | refine below_set ?_ GE146.out | refine below_set ?_ GE147.out | refine below_set ?_ GE158.out) | exact HB.out)) hb); have n4_ := Aside0.mk (hbox); have n5_ := Aside0.mk ((by rw [hg]; exact (below_size (by repeat (first | (with_reducible first | exact HB.out | apply below_alloc | apply pw_below_drewN | apply below_drew1 | refine below_set ?_ GE146.out | refine below_set ?_ GE147.out | refine below_set ?_ GE158.out) | exact HB.out))) : w.heap.size ≤ gb163)); have n6_ := Aside0.mk ((by rw [hg]; exact (below_size (by repeat (first | (with_reducible first | exact HB.out | apply below_alloc | apply pw_below_drewN | apply below_drew1 | refine below_set ?_ GE146.out | refine below_set ?_ GE147.out | refine below_set ?_ GE158.out) | exact HB.out))) : w.heap.size ≤ gb163)); have n7_ := Aside0.mk ((by rw [hg]; exact Nat.ne_of_lt (blk_lt (g := gb146) (o := .cells #[.int .i64 a0_0, .int .i64 a0_1, .int .i64 a0_2] 23 (0, 0)) (by (with_reducible repeat (first | refine blk_drewN ?_ _ | refine blk_drew ?_ | refine blk_alloc ?_ _)); exact BK146.out)) : gb146 ≠ gb163)); have n8_ := Aside0.mk ((by rw [hg]; exact Nat.ne_of_gt (blk_lt (g := gb146) (o := .cells #[.int .i64 a0_0, .int .i64 a0_1, .int .i64 a0_2] 23 (0, 0)) (by (with_reducible repeat (first | refine blk_drewN ?_ _ | refine blk_drew ?_ | refine blk_alloc ?_ _)); exact BK146.out)) : gb163 ≠ gb146)); have n9_ := Aside0.mk ((by rw [hg]; exact Nat.ne_of_lt (blk_lt (g := gb147) (o := .cells #[.int .i64 a1_0, .int .i64 a1_1] 24 (0, 0)) (by (with_reducible repeat (first | refine blk_drewN ?_ _ | refine blk_drew ?_ | refine blk_alloc ?_ _)); exact BK147.out)) : gb147 ≠ gb163)); have n10_ := Aside0.mk ((by rw [hg]; exact Nat.ne_of_gt (blk_lt (g := gb147) (o := .cells #[.int .i64 a1_0, .int .i64 a1_1] 24 (0, 0)) (by (with_reducible repeat (first | refine blk_drewN ?_ _ | refine blk_drew ?_ | refine blk_alloc ?_ _)); exact BK147.out)) : gb163 ≠ gb147)); have n11_ := Aside0.mk ((by rw [hg]; exact Nat.ne_of_lt (blk_lt (g := gb158) (o := .cells #[.int .i64 t149, .int .i64 t150, .int .i64 t151, .int .i64 t152, .int .i64 t153, .int .i64 t154, .int .i64 t155, .int .i64 t156, .bool t157] 28 (0, 0)) (by (with_reducible repeat (first | refine blk_drewN ?_ _ | refine blk_drew ?_ | refine blk_alloc ?_ _)); exact BK158.out)) : gb158 ≠ gb163)); have n12_ := Aside0.mk ((by rw [hg]; exact Nat.ne_of_gt (blk_lt (g := gb158) (o := .cells #[.int .i64 t149, .int .i64 t150, .int .i64 t151, .int .i64 t152, .int .i64 t153, .int .i64 t154, .int .i64 t155, .int .i64 t156, .bool t157] 28 (0, 0)) (by (with_reducible repeat (first | refine blk_drewN ?_ _ | refine blk_drew ?_ | refine blk_alloc ?_ _)); exact BK158.out)) : gb163 ≠ gb158)); clear BK146; clear BK147; clear BK158; clear HB; have BK146 := n0_; have BK147 := n1_; have BK158 := n2_; have HB := n3_; have BK163 := n4_; have GW163 := n5_; have GE163 := n6_; have NB146_163 := n7_; have NB163_146 := n8_; have NB147_163 := n9_; have NB163_147 := n10_; have NB158_163 := n11_; have NB163_158 := n12_; clear n0_ n1_ n2_ n3_ n4_ n5_ n6_ n7_ n8_ n9_ n10_ n11_ n12_; clear hb hbox hg; have hnb26 := NB163_146.out; have hnc26 := NB146_163.out; have hnb27 := NB163_147.out; have hnc27 := NB147_163.out; have hnb28 := NB163_158.out; have hnc28 := NB158_163.out; have hcz29_0 : w25.cell? ⟨gb163, 0, none⟩ = some (.int .i64 0) := (blk_cell BK163.out 0).trans rfl; have hcz29_1 : w25.cell? ⟨gb163, 1, none⟩ = some (.int .i64 0) := (blk_cell BK163.out 1).trans rfl; have hcz29_2 : w25.cell? ⟨gb163, 2, none⟩ = some (.int .i64 0) := (blk_cell BK163.out 2).trans rfl; have hcz29_3 : w25.cell? ⟨gb163, 3, none⟩ = some (.int .i64 0) := (blk_cell BK163.out 3).trans rfl; have hfz29_0 := blk_frozen BK163.out 0; have hfz29_1 := blk_frozen BK163.out 1; have hfz29_2 := blk_frozen BK163.out 2; have hfz29_3 := blk_frozen BK163.out 3; have hcz30_0 : w25.cell? ⟨gb147, 0, none⟩ = some (.int .i64 a1_0) := (blk_cell BK147.out 0).trans rfl; have hcz30_1 : w25.cell? ⟨gb147, 1, none⟩ = some (.int .i64 a1_1) := (blk_cell BK147.out 1).trans rfl; have hfz30_0 := blk_frozen BK147.out 0; have hfz30_1 := blk_frozen BK147.out 1; have hcz31_0 : w25.cell? ⟨gb158, 0, none⟩ = some (.int .i64 t149) := (blk_cell BK158.out 0).trans rfl; have hcz31_1 : w25.cell? ⟨gb158, 1, none⟩ = some (.int .i64 t150) := (blk_cell BK158.out 1).trans rfl; have hcz31_2 : w25.cell? ⟨gb158, 2, none⟩ = some (.int .i64 t151) := (blk_cell BK158.out 2).trans rfl; have hcz31_3 : w25.cell? ⟨gb158, 3, none⟩ = some (.int .i64 t152) := (blk_cell BK158.out 3).trans rfl; have hcz31_4 : w25.cell? ⟨gb158, 4, none⟩ = some (.int .i64 t153) := (blk_cell BK158.out 4).trans rfl; have hcz31_5 : w25.cell? ⟨gb158, 5, none⟩ = some (.int .i64 t154) := (blk_cell BK158.out 5).trans rfl; have hcz31_6 : w25.cell? ⟨gb158, 6, none⟩ = some (.int .i64 t155) := (blk_cell BK158.out 6).trans rfl; have hcz31_7 : w25.cell? ⟨gb158, 7, none⟩ = some (.int .i64 t156) := (blk_cell BK158.out 7).trans rfl; have hcz31_8 : w25.cell? ⟨gb158, 8, none⟩ = some (.bool t157) := (blk_cell BK158.out 8).trans rfl; have hfz31_0 := blk_frozen BK158.out 0; have hfz31_1 := blk_frozen BK158.out 1; have hfz31_2 := blk_frozen BK158.out 2; have hfz31_3 := blk_frozen BK158.out 3; have hfz31_4 := blk_frozen BK158.out 4; have hfz31_5 := blk_frozen BK158.out 5; have hfz31_6 := blk_frozen BK158.out 6; have hfz31_7 := blk_frozen BK158.out 7; have hfz31_8 := blk_frozen BK158.out 8) | ((with_reducible refine gate_callee (f := 15) rfl ?_); refine goesL_ (some 34) rfl rfl Try.func15 (by kernel_rfl) rfl #[.int .i64 3, .int .i64 (Int.tmod (Go.bits .and .i64 a1_0 63) (wrap64 (t149 + 1)))] rfl (by (try simp only [List.map_toArray, List.map_cons, List.map_nil]); first | done | rfl | (simp only [List.length_drop, List.length_take]; rfl)) ?_; (with_reducible refine (cell_New.calls 3 (Int.tmod (Go.bits .and .i64 a1_0 63) (wrap64 (t149 + 1))) t164 t165 t166 t167 _ A13.out).mono ?_); rintro e w32 ⟨rfl, hb⟩; refine ⟨_, rfl, ?_⟩; have n0_ := Aside0.mk (blk_below (g := gb146) (o := .cells #[.int .i64 a0_0, .int .i64 a0_1, .int .i64 a0_2] 23 (0, 0)) (by (with_reducible repeat (first | refine blk_drewN ?_ _ | refine blk_drew ?_ | refine blk_alloc ?_ _)); refine blk_far ?_ NB146_163.out _; (with_reducible repeat (first | refine blk_drewN ?_ _ | refine blk_drew ?_ | refine blk_alloc ?_ _)); refine blk_far ?_ NB146_163.out _; (with_reducible repeat (first | refine blk_drewN ?_ _ | refine blk_drew ?_ | refine blk_alloc ?_ _)); refine blk_far ?_ NB146_163.out _; (with_reducible repeat (first | refine blk_drewN ?_ _ | refine blk_drew ?_ | refine blk_alloc ?_ _)); refine blk_far ?_ NB146_163.out _; (with_reducible repeat (first | refine blk_drewN ?_ _ | refine blk_drew ?_ | refine blk_alloc ?_ _)); exact BK146.out) hb); have n1_ := Aside0.mk (blk_below (g := gb147) (o := .cells #[.int .i64 a1_0, .int .i64 a1_1] 24 (0, 0)) (by (with_reducible repeat (first | refine blk_drewN ?_ _ | refine blk_drew ?_ | refine blk_alloc ?_ _)); refine blk_far ?_ NB147_163.out _; (with_reducible repeat (first | refine blk_drewN ?_ _ | refine blk_drew ?_ | refine blk_alloc ?_ _)); refine blk_far ?_ NB147_163.out _; (with_reducible repeat (first | refine blk_drewN ?_ _ | refine blk_drew ?_ | refine blk_alloc ?_ _)); refine blk_far ?_ NB147_163.out _; (with_reducible repeat (first | refine blk_drewN ?_ _ | refine blk_drew ?_ | refine blk_alloc ?_ _)); refine blk_far ?_ NB147_163.out _; (with_reducible repeat (first | refine blk_drewN ?_ _ | refine blk_drew ?_ | refine blk_alloc ?_ _)); exact BK147.out) hb); have n2_ := Aside0.mk (blk_below (g := gb158) (o := .cells #[.int .i64 t149, .int .i64 t150, .int .i64 t151, .int .i64 t152, .int .i64 t153, .int .i64 t154, .int .i64 t155, .int .i64 t156, .bool t157] 28 (0, 0)) (by (with_reducible repeat (first | refine blk_drewN ?_ _ | refine blk_drew ?_ | refine blk_alloc ?_ _)); refine blk_far ?_ NB158_163.out _; (with_reducible repeat (first | refine blk_drewN ?_ _ | refine blk_drew ?_ | refine blk_alloc ?_ _)); refine blk_far ?_ NB158_163.out _; (with_reducible repeat (first | refine blk_drewN ?_ _ | refine blk_drew ?_ | refine blk_alloc ?_ _)); refine blk_far ?_ NB158_163.out _; (with_reducible repeat (first | refine blk_drewN ?_ _ | refine blk_drew ?_ | refine blk_alloc ?_ _)); refine blk_far ?_ NB158_163.out _; (with_reducible repeat (first | refine blk_drewN ?_ _ | refine blk_drew ?_ | refine blk_alloc ?_ _)); exact BK158.out) hb); have n3_ := Aside0.mk (blk_below (g := gb163) (o := .cells #[.int .i64 t159, .int .i64 t160, .int .i64 t161, .int .i64 t162] 31 (0, 0)) (by (with_reducible repeat (first | refine blk_drewN ?_ _ | refine blk_drew ?_ | refine blk_alloc ?_ _)); refine blk_put (cs := #[.int .i64 t159, .int .i64 t160, .int .i64 t161, .int .i64 0]) ?_ 3 _ rfl; (with_reducible repeat (first | refine blk_drewN ?_ _ | refine blk_drew ?_ | refine blk_alloc ?_ _)); refine blk_put (cs := #[.int .i64 t159, .int .i64 t160, .int .i64 0, .int .i64 0]) ?_ 2 _ rfl; (with_reducible repeat (first | refine blk_drewN ?_ _ | refine blk_drew ?_ | refine blk_alloc ?_ _)); refine blk_put (cs := #[.int .i64 t159, .int .i64 0, .int .i64 0, .int .i64 0]) ?_ 1 _ rfl; (with_reducible repeat (first | refine blk_drewN ?_ _ | refine blk_drew ?_ | refine blk_alloc ?_ _)); refine blk_put (cs := #[.int .i64 0, .int .i64 0, .int .i64 0, .int .i64 0]) ?_ 0 _ rfl; (with_reducible repeat (first | refine blk_drewN ?_ _ | refine blk_drew ?_ | refine blk_alloc ?_ _)); exact BK163.out) hb); have n4_ := Aside0.mk (below_step (by repeat (first | (with_reducible first | exact HB.out | apply below_alloc | apply pw_below_drewN | apply below_drew1 | refine below_set ?_ GE146.out | refine below_set ?_ GE147.out | refine below_set ?_ GE158.out | refine below_set ?_ GE163.out) | exact HB.out)) hb); clear BK146; clear BK147; clear BK158; clear BK163; clear HB; have BK146 := n0_; have BK147 := n1_; have BK158 := n2_; have BK163 := n3_; have HB := n4_; clear n0_ n1_ n2_ n3_ n4_; (try clear hb); (try clear hb2); (try clear hk); (try clear hi)) | ((with_reducible refine gate_dst (N := 11) rfl ?_); refine box_event ?hg (N := 11) ?hd (cs := #[.int .i64 0, .int .i64 0, .int .i64 0, .int .i64 0]) (t := 36) ?hr ?_; (case hd => rfl); (case hg => rfl); (case hr => first | (go_simp; done) | (go_simp; rfl)); intro gb168 hg w33 hbox hb; have n0_ := Aside0.mk (blk_below (g := gb146) (o := .cells #[.int .i64 a0_0, .int .i64 a0_1, .int .i64 a0_2] 23 (0, 0)) (by (with_reducible repeat (first | refine blk_drewN ?_ _ | refine blk_drew ?_ | refine blk_alloc ?_ _)); exact BK146.out) hb); have n1_ := Aside0.mk (blk_below (g := gb147) (o := .cells #[.int .i64 a1_0, .int .i64 a1_1] 24 (0, 0)) (by (with_reducible repeat (first | refine blk_drewN ?_ _ | refine blk_drew ?_ | refine blk_alloc ?_ _)); exact BK147.out) hb); have n2_ := Aside0.mk (blk_below (g := gb158) (o := .cells #[.int .i64 t149, .int .i64 t150, .int .i64 t151, .int .i64 t152, .int .i64 t153, .int .i64 t154, .int .i64 t155, .int .i64 t156, .bool t157] 28 (0, 0)) (by (with_reducible repeat (first | refine blk_drewN ?_ _ | refine blk_drew ?_ | refine blk_alloc ?_ _)); exact BK158.out) hb); have n3_ := Aside0.mk (blk_below (g := gb163) (o := .cells #[.int .i64 t159, .int .i64 t160, .int .i64 t161, .int .i64 t162] 31 (0, 0)) (by (with_reducible repeat (first | refine blk_drewN ?_ _ | refine blk_drew ?_ | refine blk_alloc ?_ _)); exact BK163.out) hb); have n4_ := Aside0.mk (below_step (by repeat (first | (with_reducible first | exact HB.out | apply below_alloc | apply pw_below_drewN | apply below_drew1 | refine below_set ?_ GE146.out | refine below_set ?_ GE147.out | refine below_set ?_ GE158.out | refine below_set ?_ GE163.out) | exact HB.out)) hb); have n5_ := Aside0.mk ((by rw [hg]; exact (below_size (by repeat (first | (with_reducible first | exact HB.out | apply below_alloc | apply pw_below_drewN | apply below_drew1 | refine below_set ?_ GE146.out | refine below_set ?_ GE147.out | refine below_set ?_ GE158.out | refine below_set ?_ GE163.out) | exact HB.out))) : w.heap.size ≤ gb168)); have n6_ := Aside0.mk ((by rw [hg]; exact (below_size (by repeat (first | (with_reducible first | exact HB.out | apply below_alloc | apply pw_below_drewN | apply below_drew1 | refine below_set ?_ GE146.out | refine below_set ?_ GE147.out | refine below_set ?_ GE158.out | refine below_set ?_ GE163.out) | exact HB.out))) : w.heap.size ≤ gb168)); have n7_ := Aside0.mk ((by rw [hg]; exact Nat.ne_of_lt (blk_lt (g := gb146) (o := .cells #[.int .i64 a0_0, .int .i64 a0_1, .int .i64 a0_2] 23 (0, 0)) (by (with_reducible repeat (first | refine blk_drewN ?_ _ | refine blk_drew ?_ | refine blk_alloc ?_ _)); exact BK146.out)) : gb146 ≠ gb168)); have n8_ := Aside0.mk ((by rw [hg]; exact Nat.ne_of_gt (blk_lt (g := gb146) (o := .cells #[.int .i64 a0_0, .int .i64 a0_1, .int .i64 a0_2] 23 (0, 0)) (by (with_reducible repeat (first | refine blk_drewN ?_ _ | refine blk_drew ?_ | refine blk_alloc ?_ _)); exact BK146.out)) : gb168 ≠ gb146)); have n9_ := Aside0.mk ((by rw [hg]; exact Nat.ne_of_lt (blk_lt (g := gb147) (o := .cells #[.int .i64 a1_0, .int .i64 a1_1] 24 (0, 0)) (by (with_reducible repeat (first | refine blk_drewN ?_ _ | refine blk_drew ?_ | refine blk_alloc ?_ _)); exact BK147.out)) : gb147 ≠ gb168)); have n10_ := Aside0.mk ((by rw [hg]; exact Nat.ne_of_gt (blk_lt (g := gb147) (o := .cells #[.int .i64 a1_0, .int .i64 a1_1] 24 (0, 0)) (by (with_reducible repeat (first | refine blk_drewN ?_ _ | refine blk_drew ?_ | refine blk_alloc ?_ _)); exact BK147.out)) : gb168 ≠ gb147)); have n11_ := Aside0.mk ((by rw [hg]; exact Nat.ne_of_lt (blk_lt (g := gb158) (o := .cells #[.int .i64 t149, .int .i64 t150, .int .i64 t151, .int .i64 t152, .int .i64 t153, .int .i64 t154, .int .i64 t155, .int .i64 t156, .bool t157] 28 (0, 0)) (by (with_reducible repeat (first | refine blk_drewN ?_ _ | refine blk_drew ?_ | refine blk_alloc ?_ _)); exact BK158.out)) : gb158 ≠ gb168)); have n12_ := Aside0.mk ((by rw [hg]; exact Nat.ne_of_gt (blk_lt (g := gb158) (o := .cells #[.int .i64 t149, .int .i64 t150, .int .i64 t151, .int .i64 t152, .int .i64 t153, .int .i64 t154, .int .i64 t155, .int .i64 t156, .bool t157] 28 (0, 0)) (by (with_reducible repeat (first | refine blk_drewN ?_ _ | refine blk_drew ?_ | refine blk_alloc ?_ _)); exact BK158.out)) : gb168 ≠ gb158)); have n13_ := Aside0.mk ((by rw [hg]; exact Nat.ne_of_lt (blk_lt (g := gb163) (o := .cells #[.int .i64 t159, .int .i64 t160, .int .i64 t161, .int .i64 t162] 31 (0, 0)) (by (with_reducible repeat (first | refine blk_drewN ?_ _ | refine blk_drew ?_ | refine blk_alloc ?_ _)); exact BK163.out)) : gb163 ≠ gb168)); have n14_ := Aside0.mk ((by rw [hg]; exact Nat.ne_of_gt (blk_lt (g := gb163) (o := .cells #[.int .i64 t159, .int .i64 t160, .int .i64 t161, .int .i64 t162] 31 (0, 0)) (by (with_reducible repeat (first | refine blk_drewN ?_ _ | refine blk_drew ?_ | refine blk_alloc ?_ _)); exact BK163.out)) : gb168 ≠ gb163)); have n15_ := Aside0.mk ((show IsS36 w w33 gb168 0 0 0 0 from ⟨hbox, by rw [hg]; exact (below_size (by repeat (first | (with_reducible first | exact HB.out | apply below_alloc | apply pw_below_drewN | apply below_drew1 | refine below_set ?_ GE146.out | refine below_set ?_ GE147.out | refine below_set ?_ GE158.out | refine below_set ?_ GE163.out) | exact HB.out)))⟩)); clear BK146; clear BK147; clear BK158; clear BK163; clear HB; have BK146 := n0_; have BK147 := n1_; have BK158 := n2_; have BK163 := n3_; have HB := n4_; have GW168 := n5_; have GE168 := n6_; have NB146_168 := n7_; have NB168_146 := n8_; have NB147_168 := n9_; have NB168_147 := n10_; have NB158_168 := n11_; have NB168_158 := n12_; have NB163_168 := n13_; have NB168_163 := n14_; have HI168 := n15_; clear n0_ n1_ n2_ n3_ n4_ n5_ n6_ n7_ n8_ n9_ n10_ n11_ n12_ n13_ n14_ n15_; clear hb hbox hg; obtain ⟨HGz34, hgz34⟩ := HI168.out; have hcz34_0 := cellS36_0 HGz34; have hcz34_1 := cellS36_1 HGz34; have hcz34_2 := cellS36_2 HGz34; have hcz34_3 := cellS36_3 HGz34; have hfz34_0 := blk_frozen HGz34 0; have hfz34_1 := blk_frozen HGz34 1; have hfz34_2 := blk_frozen HGz34 2; have hfz34_3 := blk_frozen HGz34 3; clear HGz34 hgz34))
        go_loopg [9, 37] k (fun kq v9 v37 w' => ∃ (x9_1 : Int) (x37_1 : Int) (x169000_1 : Int) (x169001_1 : Int) (x169002_1 : Int) (x169003_1 : Int), v9 = .int .i64 x9_1 ∧ v37 = .int .i64 x37_1 ∧ Aside0 (weighbridgelaw09_CellWaits.l0 kq x9_1 l2 (l2.length : Int) x37_1 a1_0 a1_1 t149 t150 t151 t152 t153 t154 t155 t156 t157 t159 t160 t161 t162 x169000_1 x169001_1 x169002_1 x169003_1 = some r) ∧ Aside0 (kq ≤ k) ∧ Aside0 (w'.heap[gb146]? = some (.cells #[.int .i64 a0_0, .int .i64 a0_1, .int .i64 a0_2] 23 (0, 0))) ∧ Aside0 (w'.heap[gb147]? = some (.cells #[.int .i64 a1_0, .int .i64 a1_1] 24 (0, 0))) ∧ Aside0 (w'.heap[gb158]? = some (.cells #[.int .i64 t149, .int .i64 t150, .int .i64 t151, .int .i64 t152, .int .i64 t153, .int .i64 t154, .int .i64 t155, .int .i64 t156, .bool t157] 28 (0, 0))) ∧ Aside0 (w'.heap[gb163]? = some (.cells #[.int .i64 t159, .int .i64 t160, .int .i64 t161, .int .i64 t162] 31 (0, 0))) ∧ Aside0 (IsS36 w w' gb168 x169000_1 x169001_1 x169002_1 x169003_1) ∧ Aside0 (Below w.heap.size w w'))
        case atStart => exact ⟨(3), (0), (t164), (t165), (t166), (t167), (by first | rfl | (simp; done) | (simp [*]; done)), (by first | rfl | (simp; done) | (simp [*]; done)), H', ⟨Nat.le_refl _⟩, ⟨by (with_reducible repeat (first | refine blk_drewN ?_ _ | refine blk_drew ?_ | refine blk_alloc ?_ _)); refine blk_far ?_ NB146_168.out _; (with_reducible repeat (first | refine blk_drewN ?_ _ | refine blk_drew ?_ | refine blk_alloc ?_ _)); refine blk_far ?_ NB146_168.out _; (with_reducible repeat (first | refine blk_drewN ?_ _ | refine blk_drew ?_ | refine blk_alloc ?_ _)); refine blk_far ?_ NB146_168.out _; (with_reducible repeat (first | refine blk_drewN ?_ _ | refine blk_drew ?_ | refine blk_alloc ?_ _)); refine blk_far ?_ NB146_168.out _; (with_reducible repeat (first | refine blk_drewN ?_ _ | refine blk_drew ?_ | refine blk_alloc ?_ _)); exact BK146.out⟩, ⟨by (with_reducible repeat (first | refine blk_drewN ?_ _ | refine blk_drew ?_ | refine blk_alloc ?_ _)); refine blk_far ?_ NB147_168.out _; (with_reducible repeat (first | refine blk_drewN ?_ _ | refine blk_drew ?_ | refine blk_alloc ?_ _)); refine blk_far ?_ NB147_168.out _; (with_reducible repeat (first | refine blk_drewN ?_ _ | refine blk_drew ?_ | refine blk_alloc ?_ _)); refine blk_far ?_ NB147_168.out _; (with_reducible repeat (first | refine blk_drewN ?_ _ | refine blk_drew ?_ | refine blk_alloc ?_ _)); refine blk_far ?_ NB147_168.out _; (with_reducible repeat (first | refine blk_drewN ?_ _ | refine blk_drew ?_ | refine blk_alloc ?_ _)); exact BK147.out⟩, ⟨by (with_reducible repeat (first | refine blk_drewN ?_ _ | refine blk_drew ?_ | refine blk_alloc ?_ _)); refine blk_far ?_ NB158_168.out _; (with_reducible repeat (first | refine blk_drewN ?_ _ | refine blk_drew ?_ | refine blk_alloc ?_ _)); refine blk_far ?_ NB158_168.out _; (with_reducible repeat (first | refine blk_drewN ?_ _ | refine blk_drew ?_ | refine blk_alloc ?_ _)); refine blk_far ?_ NB158_168.out _; (with_reducible repeat (first | refine blk_drewN ?_ _ | refine blk_drew ?_ | refine blk_alloc ?_ _)); refine blk_far ?_ NB158_168.out _; (with_reducible repeat (first | refine blk_drewN ?_ _ | refine blk_drew ?_ | refine blk_alloc ?_ _)); exact BK158.out⟩, ⟨by (with_reducible repeat (first | refine blk_drewN ?_ _ | refine blk_drew ?_ | refine blk_alloc ?_ _)); refine blk_far ?_ NB163_168.out _; (with_reducible repeat (first | refine blk_drewN ?_ _ | refine blk_drew ?_ | refine blk_alloc ?_ _)); refine blk_far ?_ NB163_168.out _; (with_reducible repeat (first | refine blk_drewN ?_ _ | refine blk_drew ?_ | refine blk_alloc ?_ _)); refine blk_far ?_ NB163_168.out _; (with_reducible repeat (first | refine blk_drewN ?_ _ | refine blk_drew ?_ | refine blk_alloc ?_ _)); refine blk_far ?_ NB163_168.out _; (with_reducible repeat (first | refine blk_drewN ?_ _ | refine blk_drew ?_ | refine blk_alloc ?_ _)); exact BK163.out⟩, ⟨by repeat (first | (with_reducible first | exact HI168.out | apply IsS36.alloc | apply IsS36.drewN | apply IsS36.drew | apply IsS36.set_0 | apply IsS36.set_1 | apply IsS36.set_2 | apply IsS36.set_3 | refine IsS36.far ?_ NB168_146.out _ | refine IsS36.far ?_ NB168_147.out _ | refine IsS36.far ?_ NB168_158.out _ | refine IsS36.far ?_ NB168_163.out _) | exact HI168.out)⟩, ⟨by repeat (first | (with_reducible first | exact HB.out | apply below_alloc | apply pw_below_drewN | apply below_drew1 | refine below_set ?_ (IsS36.ge HI168.out) | refine below_set ?_ GE146.out | refine below_set ?_ GE147.out | refine below_set ?_ GE158.out | refine below_set ?_ GE163.out) | exact HB.out)⟩⟩
        case round =>
          clear H'
          try clear c1
          try clear c2
          try clear p2
          try clear c5
          try clear c6
          try clear c6b0
          try clear c6b1
          try clear p6
          try clear c11
          try clear c12
          try clear c12b0
          try clear c12b1
          try clear c13
          try clear c15
          try clear c17
          try clear c21
          try clear c22
          try clear c26
          try clear c27
          try clear c28
          try clear hcz18_0
          try clear hcz18_1
          try clear hcz18_2
          try clear hcz23_0
          try clear hcz23_1
          try clear hcz23_2
          try clear hcz23_3
          try clear hcz23_4
          try clear hcz23_5
          try clear hcz23_6
          try clear hcz23_7
          try clear hcz23_8
          try clear hcz29_0
          try clear hcz29_1
          try clear hcz29_2
          try clear hcz29_3
          try clear hcz30_0
          try clear hcz30_1
          try clear hcz31_0
          try clear hcz31_1
          try clear hcz31_2
          try clear hcz31_3
          try clear hcz31_4
          try clear hcz31_5
          try clear hcz31_6
          try clear hcz31_7
          try clear hcz31_8
          try clear hcz34_0
          try clear hcz34_1
          try clear hcz34_2
          try clear hcz34_3
          try clear hfz18_0
          try clear hfz18_1
          try clear hfz18_2
          try clear hfz23_0
          try clear hfz23_1
          try clear hfz23_2
          try clear hfz23_3
          try clear hfz23_4
          try clear hfz23_5
          try clear hfz23_6
          try clear hfz23_7
          try clear hfz23_8
          try clear hfz29_0
          try clear hfz29_1
          try clear hfz29_2
          try clear hfz29_3
          try clear hfz30_0
          try clear hfz30_1
          try clear hfz31_0
          try clear hfz31_1
          try clear hfz31_2
          try clear hfz31_3
          try clear hfz31_4
          try clear hfz31_5
          try clear hfz31_6
          try clear hfz31_7
          try clear hfz31_8
          try clear hfz34_0
          try clear hfz34_1
          try clear hfz34_2
          try clear hfz34_3
          obtain ⟨x9_1, x37_1, x169000_1, x169001_1, x169002_1, x169003_1, rfl, rfl, HA, HK1, BK146, BK147, BK158, BK163, HI168, HB⟩ := hrel
          cases gk with
          | zero => exact absurd HA.out (by simp [weighbridgelaw09_CellWaits.l0])
          | succ k1 =>
            have H := HA.out
            clear HA
            simp only [weighbridgelaw09_CellWaits.l0] at H
            by_cases c35 : x37_1 < (l2.length : Int)
            · rw [if_pos c35] at H
              have c35b0 : decide (x37_1 < (l2.length : Int)) = true := decide_eq_true c35
              clear c35
              by_cases c36 : 0 ≤ x37_1
              · rw [if_pos c36] at H
                have c36b0 : decide (0 ≤ x37_1) = true := decide_eq_true c36
                clear c36
                by_cases c37 : x37_1 < (l2.length : Int)
                · rw [if_pos c37] at H
                  have c37b0 : decide (x37_1 < (l2.length : Int)) = true := decide_eq_true c37
                  clear c37
                  replace H := Option.bind_eq_some_iff.mp H
                  obtain ⟨t171, A380, H⟩ := H
                  replace H : (if t151 = 0 then (none) else ((cell_Cell_Take.f k1 x169000_1 x169001_1 x169002_1 x169003_1 t159 t160 t161 t162 (wrap64 (x9_1 + t171)) (wrap64 ((Int.tmod (Go.bits .and .i64 ((rd_T40 l2 x37_1).f1) 31) t151) + 1))).bind fun bt172 => (weighbridgelaw09_CellWaits.l0 k1 (wrap64 (x9_1 + t171)) l2 (l2.length : Int) (wrap64 (x37_1 + 1)) a1_0 a1_1 t149 t150 t151 t152 t153 t154 t155 t156 t157 t159 t160 t161 t162 bt172.2.1 bt172.2.2.1 bt172.2.2.2.1 bt172.2.2.2.2))) = some r := H
                  have A38 := Aside0.mk A380
                  clear A380
                  by_cases c39 : t151 = 0
                  · rw [if_pos c39] at H
                    exact absurd H (by simp)
                  · rw [if_neg c39] at H
                    have c39b0 : (t151 == 0) = false := beq_eq_false_iff_ne.mpr c39
                    have c39b1 : (t151 != 0) = true := bne_iff_ne.mpr c39
                    replace H := Option.bind_eq_some_iff.mp H
                    obtain ⟨⟨t172, t173, t174, t175, t176⟩, A400, H⟩ := H
                    replace H : (weighbridgelaw09_CellWaits.l0 k1 (wrap64 (x9_1 + t171)) l2 (l2.length : Int) (wrap64 (x37_1 + 1)) a1_0 a1_1 t149 t150 t151 t152 t153 t154 t155 t156 t157 t159 t160 t161 t162 t173 t174 t175 t176) = some r := H
                    have A40 := Aside0.mk A400
                    clear A400
                    have H' := Aside0.mk H
                    clear H
                    have p169 : 0 ≤ (x37_1 : Int) := of_decide_eq_true (by first | (with_reducible assumption) | assumption)
                    have q169 : x37_1 < (l2.length : Int) := of_decide_eq_true (by first | (with_reducible assumption) | assumption)
                    obtain ⟨ad169, e169, hx169_0, hx169_1⟩ := at_T40 HR2.out x37_1 p169 q169
                    cases e169
                    replace hx169_0 := (HB.out.cell (World.block_lt_of_cell? w _ hx169_0)).trans hx169_0
                    replace hx169_1 := (HB.out.cell (World.block_lt_of_cell? w _ hx169_1)).trans hx169_1
                    replace p169 := eq_true p169
                    replace q169 := eq_true q169
                    try go_wp2_with (first | ((with_reducible refine gate_dst (N := 13) rfl ?_); refine box_event ?hg (N := 13) ?hd (cs := #[.int .i64 0, .int .i64 0]) (t := 40) ?hr ?_; (case hd => rfl); (case hg => rfl); (case hr => first | (go_simp; done) | (go_simp; rfl)); intro gb170 hg w41 hbox hb; have n0_ := Aside0.mk (blk_below (g := gb146) (o := .cells #[.int .i64 a0_0, .int .i64 a0_1, .int .i64 a0_2] 23 (0, 0)) (by (with_reducible repeat (first | refine blk_drewN ?_ _ | refine blk_drew ?_ | refine blk_alloc ?_ _)); exact BK146.out) hb); have n1_ := Aside0.mk (blk_below (g := gb147) (o := .cells #[.int .i64 a1_0, .int .i64 a1_1] 24 (0, 0)) (by (with_reducible repeat (first | refine blk_drewN ?_ _ | refine blk_drew ?_ | refine blk_alloc ?_ _)); exact BK147.out) hb); have n2_ := Aside0.mk (blk_below (g := gb158) (o := .cells #[.int .i64 t149, .int .i64 t150, .int .i64 t151, .int .i64 t152, .int .i64 t153, .int .i64 t154, .int .i64 t155, .int .i64 t156, .bool t157] 28 (0, 0)) (by (with_reducible repeat (first | refine blk_drewN ?_ _ | refine blk_drew ?_ | refine blk_alloc ?_ _)); exact BK158.out) hb); have n3_ := Aside0.mk (blk_below (g := gb163) (o := .cells #[.int .i64 t159, .int .i64 t160, .int .i64 t161, .int .i64 t162] 31 (0, 0)) (by (with_reducible repeat (first | refine blk_drewN ?_ _ | refine blk_drew ?_ | refine blk_alloc ?_ _)); exact BK163.out) hb); have n4_ := Aside0.mk (IsS36.below (by repeat (first | (with_reducible first | exact HI168.out | apply IsS36.alloc | apply IsS36.drewN | apply IsS36.drew | apply IsS36.set_0 | apply IsS36.set_1 | apply IsS36.set_2 | apply IsS36.set_3 | refine IsS36.far ?_ NB168_146.out _ | refine IsS36.far ?_ NB168_147.out _ | refine IsS36.far ?_ NB168_158.out _ | refine IsS36.far ?_ NB168_163.out _) | exact HI168.out)) hb); have n5_ := Aside0.mk (below_step (by repeat (first | (with_reducible first | exact HB.out | apply below_alloc | apply pw_below_drewN | apply below_drew1 | refine below_set ?_ (IsS36.ge HI168.out) | refine below_set ?_ GE146.out | refine below_set ?_ GE147.out | refine below_set ?_ GE158.out | refine below_set ?_ GE163.out) | exact HB.out)) hb); have n6_ := Aside0.mk (hbox); have n7_ := Aside0.mk ((by rw [hg]; exact (below_size (by repeat (first | (with_reducible first | exact HB.out | apply below_alloc | apply pw_below_drewN | apply below_drew1 | refine below_set ?_ (IsS36.ge HI168.out) | refine below_set ?_ GE146.out | refine below_set ?_ GE147.out | refine below_set ?_ GE158.out | refine below_set ?_ GE163.out) | exact HB.out))) : w.heap.size ≤ gb170)); have n8_ := Aside0.mk ((by rw [hg]; exact (below_size (by repeat (first | (with_reducible first | exact HB.out | apply below_alloc | apply pw_below_drewN | apply below_drew1 | refine below_set ?_ (IsS36.ge HI168.out) | refine below_set ?_ GE146.out | refine below_set ?_ GE147.out | refine below_set ?_ GE158.out | refine below_set ?_ GE163.out) | exact HB.out))) : w.heap.size ≤ gb170)); have n9_ := Aside0.mk ((by rw [hg]; exact Nat.ne_of_lt (blk_lt (g := gb146) (o := .cells #[.int .i64 a0_0, .int .i64 a0_1, .int .i64 a0_2] 23 (0, 0)) (by (with_reducible repeat (first | refine blk_drewN ?_ _ | refine blk_drew ?_ | refine blk_alloc ?_ _)); exact BK146.out)) : gb146 ≠ gb170)); have n10_ := Aside0.mk ((by rw [hg]; exact Nat.ne_of_gt (blk_lt (g := gb146) (o := .cells #[.int .i64 a0_0, .int .i64 a0_1, .int .i64 a0_2] 23 (0, 0)) (by (with_reducible repeat (first | refine blk_drewN ?_ _ | refine blk_drew ?_ | refine blk_alloc ?_ _)); exact BK146.out)) : gb170 ≠ gb146)); have n11_ := Aside0.mk ((by rw [hg]; exact Nat.ne_of_lt (blk_lt (g := gb147) (o := .cells #[.int .i64 a1_0, .int .i64 a1_1] 24 (0, 0)) (by (with_reducible repeat (first | refine blk_drewN ?_ _ | refine blk_drew ?_ | refine blk_alloc ?_ _)); exact BK147.out)) : gb147 ≠ gb170)); have n12_ := Aside0.mk ((by rw [hg]; exact Nat.ne_of_gt (blk_lt (g := gb147) (o := .cells #[.int .i64 a1_0, .int .i64 a1_1] 24 (0, 0)) (by (with_reducible repeat (first | refine blk_drewN ?_ _ | refine blk_drew ?_ | refine blk_alloc ?_ _)); exact BK147.out)) : gb170 ≠ gb147)); have n13_ := Aside0.mk ((by rw [hg]; exact Nat.ne_of_lt (blk_lt (g := gb158) (o := .cells #[.int .i64 t149, .int .i64 t150, .int .i64 t151, .int .i64 t152, .int .i64 t153, .int .i64 t154, .int .i64 t155, .int .i64 t156, .bool t157] 28 (0, 0)) (by (with_reducible repeat (first | refine blk_drewN ?_ _ | refine blk_drew ?_ | refine blk_alloc ?_ _)); exact BK158.out)) : gb158 ≠ gb170)); have n14_ := Aside0.mk ((by rw [hg]; exact Nat.ne_of_gt (blk_lt (g := gb158) (o := .cells #[.int .i64 t149, .int .i64 t150, .int .i64 t151, .int .i64 t152, .int .i64 t153, .int .i64 t154, .int .i64 t155, .int .i64 t156, .bool t157] 28 (0, 0)) (by (with_reducible repeat (first | refine blk_drewN ?_ _ | refine blk_drew ?_ | refine blk_alloc ?_ _)); exact BK158.out)) : gb170 ≠ gb158)); have n15_ := Aside0.mk ((by rw [hg]; exact Nat.ne_of_lt (blk_lt (g := gb163) (o := .cells #[.int .i64 t159, .int .i64 t160, .int .i64 t161, .int .i64 t162] 31 (0, 0)) (by (with_reducible repeat (first | refine blk_drewN ?_ _ | refine blk_drew ?_ | refine blk_alloc ?_ _)); exact BK163.out)) : gb163 ≠ gb170)); have n16_ := Aside0.mk ((by rw [hg]; exact Nat.ne_of_gt (blk_lt (g := gb163) (o := .cells #[.int .i64 t159, .int .i64 t160, .int .i64 t161, .int .i64 t162] 31 (0, 0)) (by (with_reducible repeat (first | refine blk_drewN ?_ _ | refine blk_drew ?_ | refine blk_alloc ?_ _)); exact BK163.out)) : gb170 ≠ gb163)); have n17_ := Aside0.mk ((by rw [hg]; exact Nat.ne_of_lt (IsS36.lt (show IsS36 w _ gb168 x169000_1 x169001_1 x169002_1 x169003_1 from by repeat (first | (with_reducible first | exact HI168.out | apply IsS36.alloc | apply IsS36.drewN | apply IsS36.drew | apply IsS36.set_0 | apply IsS36.set_1 | apply IsS36.set_2 | apply IsS36.set_3 | refine IsS36.far ?_ NB168_146.out _ | refine IsS36.far ?_ NB168_147.out _ | refine IsS36.far ?_ NB168_158.out _ | refine IsS36.far ?_ NB168_163.out _) | exact HI168.out))) : gb168 ≠ gb170)); have n18_ := Aside0.mk ((by rw [hg]; exact Nat.ne_of_gt (IsS36.lt (show IsS36 w _ gb168 x169000_1 x169001_1 x169002_1 x169003_1 from by repeat (first | (with_reducible first | exact HI168.out | apply IsS36.alloc | apply IsS36.drewN | apply IsS36.drew | apply IsS36.set_0 | apply IsS36.set_1 | apply IsS36.set_2 | apply IsS36.set_3 | refine IsS36.far ?_ NB168_146.out _ | refine IsS36.far ?_ NB168_147.out _ | refine IsS36.far ?_ NB168_158.out _ | refine IsS36.far ?_ NB168_163.out _) | exact HI168.out))) : gb170 ≠ gb168)); clear BK146; clear BK147; clear BK158; clear BK163; clear HI168; clear HB; have BK146 := n0_; have BK147 := n1_; have BK158 := n2_; have BK163 := n3_; have HI168 := n4_; have HB := n5_; have BK170 := n6_; have GW170 := n7_; have GE170 := n8_; have NB146_170 := n9_; have NB170_146 := n10_; have NB147_170 := n11_; have NB170_147 := n12_; have NB158_170 := n13_; have NB170_158 := n14_; have NB163_170 := n15_; have NB170_163 := n16_; have NB168_170 := n17_; have NB170_168 := n18_; clear n0_ n1_ n2_ n3_ n4_ n5_ n6_ n7_ n8_ n9_ n10_ n11_ n12_ n13_ n14_ n15_ n16_ n17_ n18_; clear hb hbox hg; have hnb42 := NB170_146.out; have hnc42 := NB146_170.out; have hnb43 := NB170_147.out; have hnc43 := NB147_170.out; have hnb44 := NB170_158.out; have hnc44 := NB158_170.out; have hnb45 := NB170_163.out; have hnc45 := NB163_170.out; have hnb46 := NB170_168.out; have hnc46 := NB168_170.out; have hcz47_0 : w41.cell? ⟨gb170, 0, none⟩ = some (.int .i64 0) := (blk_cell BK170.out 0).trans rfl; have hcz47_1 : w41.cell? ⟨gb170, 1, none⟩ = some (.int .i64 0) := (blk_cell BK170.out 1).trans rfl; have hfz47_0 := blk_frozen BK170.out 0; have hfz47_1 := blk_frozen BK170.out 1) | ((with_reducible refine gate_callee (f := 16) rfl ?_); refine goesL_ (some 44) rfl rfl Try.func16 (by kernel_rfl) rfl #[.int .i64 ((rd_T40 l2 x37_1).f0)] rfl (by (try simp only [List.map_toArray, List.map_cons, List.map_nil]); first | done | rfl | (simp only [List.length_drop, List.length_take]; rfl)) ?_; (with_reducible refine (weighbridgelaw09_gap.calls ((rd_T40 l2 x37_1).f0) t171 _ A38.out).mono ?_); rintro e w' ⟨rfl, ⟨nd, rfl⟩⟩; refine ⟨_, rfl, ?_⟩))
                    have n0_ : Aside0 (((w41.setCell ⟨gb170, 0, none⟩ (.int .i64 ((rd_T40 l2 x37_1).f0))).setCell ⟨gb170, 1, none⟩ (.int .i64 ((rd_T40 l2 x37_1).f1))).heap[gb146]? = some (.cells #[.int .i64 a0_0, .int .i64 a0_1, .int .i64 a0_2] 23 (0, 0))) := ⟨by (with_reducible repeat (first | refine blk_drewN ?_ _ | refine blk_drew ?_ | refine blk_alloc ?_ _)); refine blk_far ?_ NB146_170.out _; (with_reducible repeat (first | refine blk_drewN ?_ _ | refine blk_drew ?_ | refine blk_alloc ?_ _)); refine blk_far ?_ NB146_170.out _; (with_reducible repeat (first | refine blk_drewN ?_ _ | refine blk_drew ?_ | refine blk_alloc ?_ _)); exact BK146.out⟩
                    have n1_ : Aside0 (((w41.setCell ⟨gb170, 0, none⟩ (.int .i64 ((rd_T40 l2 x37_1).f0))).setCell ⟨gb170, 1, none⟩ (.int .i64 ((rd_T40 l2 x37_1).f1))).heap[gb147]? = some (.cells #[.int .i64 a1_0, .int .i64 a1_1] 24 (0, 0))) := ⟨by (with_reducible repeat (first | refine blk_drewN ?_ _ | refine blk_drew ?_ | refine blk_alloc ?_ _)); refine blk_far ?_ NB147_170.out _; (with_reducible repeat (first | refine blk_drewN ?_ _ | refine blk_drew ?_ | refine blk_alloc ?_ _)); refine blk_far ?_ NB147_170.out _; (with_reducible repeat (first | refine blk_drewN ?_ _ | refine blk_drew ?_ | refine blk_alloc ?_ _)); exact BK147.out⟩
                    have n2_ : Aside0 (((w41.setCell ⟨gb170, 0, none⟩ (.int .i64 ((rd_T40 l2 x37_1).f0))).setCell ⟨gb170, 1, none⟩ (.int .i64 ((rd_T40 l2 x37_1).f1))).heap[gb158]? = some (.cells #[.int .i64 t149, .int .i64 t150, .int .i64 t151, .int .i64 t152, .int .i64 t153, .int .i64 t154, .int .i64 t155, .int .i64 t156, .bool t157] 28 (0, 0))) := ⟨by (with_reducible repeat (first | refine blk_drewN ?_ _ | refine blk_drew ?_ | refine blk_alloc ?_ _)); refine blk_far ?_ NB158_170.out _; (with_reducible repeat (first | refine blk_drewN ?_ _ | refine blk_drew ?_ | refine blk_alloc ?_ _)); refine blk_far ?_ NB158_170.out _; (with_reducible repeat (first | refine blk_drewN ?_ _ | refine blk_drew ?_ | refine blk_alloc ?_ _)); exact BK158.out⟩
                    have n3_ : Aside0 (((w41.setCell ⟨gb170, 0, none⟩ (.int .i64 ((rd_T40 l2 x37_1).f0))).setCell ⟨gb170, 1, none⟩ (.int .i64 ((rd_T40 l2 x37_1).f1))).heap[gb163]? = some (.cells #[.int .i64 t159, .int .i64 t160, .int .i64 t161, .int .i64 t162] 31 (0, 0))) := ⟨by (with_reducible repeat (first | refine blk_drewN ?_ _ | refine blk_drew ?_ | refine blk_alloc ?_ _)); refine blk_far ?_ NB163_170.out _; (with_reducible repeat (first | refine blk_drewN ?_ _ | refine blk_drew ?_ | refine blk_alloc ?_ _)); refine blk_far ?_ NB163_170.out _; (with_reducible repeat (first | refine blk_drewN ?_ _ | refine blk_drew ?_ | refine blk_alloc ?_ _)); exact BK163.out⟩
                    have n4_ : Aside0 (((w41.setCell ⟨gb170, 0, none⟩ (.int .i64 ((rd_T40 l2 x37_1).f0))).setCell ⟨gb170, 1, none⟩ (.int .i64 ((rd_T40 l2 x37_1).f1))).heap[gb170]? = some (.cells #[.int .i64 ((rd_T40 l2 x37_1).f0), .int .i64 ((rd_T40 l2 x37_1).f1)] 40 (0, 0))) := ⟨by (with_reducible repeat (first | refine blk_drewN ?_ _ | refine blk_drew ?_ | refine blk_alloc ?_ _)); refine blk_put (cs := #[.int .i64 ((rd_T40 l2 x37_1).f0), .int .i64 0]) ?_ 1 _ rfl; (with_reducible repeat (first | refine blk_drewN ?_ _ | refine blk_drew ?_ | refine blk_alloc ?_ _)); refine blk_put (cs := #[.int .i64 0, .int .i64 0]) ?_ 0 _ rfl; (with_reducible repeat (first | refine blk_drewN ?_ _ | refine blk_drew ?_ | refine blk_alloc ?_ _)); exact BK170.out⟩
                    have n5_ : Aside0 (IsS36 w ((w41.setCell ⟨gb170, 0, none⟩ (.int .i64 ((rd_T40 l2 x37_1).f0))).setCell ⟨gb170, 1, none⟩ (.int .i64 ((rd_T40 l2 x37_1).f1))) gb168 x169000_1 x169001_1 x169002_1 x169003_1) := ⟨by repeat (first | (with_reducible first | exact HI168.out | apply IsS36.alloc | apply IsS36.drewN | apply IsS36.drew | apply IsS36.set_0 | apply IsS36.set_1 | apply IsS36.set_2 | apply IsS36.set_3 | refine IsS36.far ?_ NB168_146.out _ | refine IsS36.far ?_ NB168_147.out _ | refine IsS36.far ?_ NB168_158.out _ | refine IsS36.far ?_ NB168_163.out _ | refine IsS36.far ?_ NB168_170.out _) | exact HI168.out)⟩
                    have n6_ : Aside0 (Below w.heap.size w ((w41.setCell ⟨gb170, 0, none⟩ (.int .i64 ((rd_T40 l2 x37_1).f0))).setCell ⟨gb170, 1, none⟩ (.int .i64 ((rd_T40 l2 x37_1).f1)))) := ⟨by repeat (first | (with_reducible first | exact HB.out | apply below_alloc | apply pw_below_drewN | apply below_drew1 | refine below_set ?_ (IsS36.ge HI168.out) | refine below_set ?_ GE146.out | refine below_set ?_ GE147.out | refine below_set ?_ GE158.out | refine below_set ?_ GE163.out | refine below_set ?_ GE170.out) | exact HB.out)⟩
                    (try clear BK146)
                    (try clear BK147)
                    (try clear BK158)
                    (try clear BK163)
                    (try clear BK170)
                    (try clear HI168)
                    (try clear HB)
                    generalize ((w41.setCell ⟨gb170, 0, none⟩ (.int .i64 ((rd_T40 l2 x37_1).f0))).setCell ⟨gb170, 1, none⟩ (.int .i64 ((rd_T40 l2 x37_1).f1))) = w48 at n0_ n1_ n2_ n3_ n4_ n5_ n6_ ⊢
                    have BK146 := n0_
                    have BK147 := n1_
                    have BK158 := n2_
                    have BK163 := n3_
                    have BK170 := n4_
                    have HI168 := n5_
                    have HB := n6_
                    clear n0_ n1_ n2_ n3_ n4_ n5_ n6_
                    (try (rw [drewN_self w48]; generalize hq_ : World.drewN w48 _ = w48; have n0_ : Aside0 (w48.heap[gb146]? = some (.cells #[.int .i64 a0_0, .int .i64 a0_1, .int .i64 a0_2] 23 (0, 0))) := ⟨by rw [← hq_]; exact (by (with_reducible repeat (first | refine blk_drewN ?_ _ | refine blk_drew ?_ | refine blk_alloc ?_ _)); exact BK146.out)⟩; have n1_ : Aside0 (w48.heap[gb147]? = some (.cells #[.int .i64 a1_0, .int .i64 a1_1] 24 (0, 0))) := ⟨by rw [← hq_]; exact (by (with_reducible repeat (first | refine blk_drewN ?_ _ | refine blk_drew ?_ | refine blk_alloc ?_ _)); exact BK147.out)⟩; have n2_ : Aside0 (w48.heap[gb158]? = some (.cells #[.int .i64 t149, .int .i64 t150, .int .i64 t151, .int .i64 t152, .int .i64 t153, .int .i64 t154, .int .i64 t155, .int .i64 t156, .bool t157] 28 (0, 0))) := ⟨by rw [← hq_]; exact (by (with_reducible repeat (first | refine blk_drewN ?_ _ | refine blk_drew ?_ | refine blk_alloc ?_ _)); exact BK158.out)⟩; have n3_ : Aside0 (w48.heap[gb163]? = some (.cells #[.int .i64 t159, .int .i64 t160, .int .i64 t161, .int .i64 t162] 31 (0, 0))) := ⟨by rw [← hq_]; exact (by (with_reducible repeat (first | refine blk_drewN ?_ _ | refine blk_drew ?_ | refine blk_alloc ?_ _)); exact BK163.out)⟩; have n4_ : Aside0 (w48.heap[gb170]? = some (.cells #[.int .i64 ((rd_T40 l2 x37_1).f0), .int .i64 ((rd_T40 l2 x37_1).f1)] 40 (0, 0))) := ⟨by rw [← hq_]; exact (by (with_reducible repeat (first | refine blk_drewN ?_ _ | refine blk_drew ?_ | refine blk_alloc ?_ _)); exact BK170.out)⟩; have n5_ : Aside0 (IsS36 w w48 gb168 x169000_1 x169001_1 x169002_1 x169003_1) := ⟨by rw [← hq_]; exact (by repeat (first | (with_reducible first | exact HI168.out | apply IsS36.alloc | apply IsS36.drewN | apply IsS36.drew | apply IsS36.set_0 | apply IsS36.set_1 | apply IsS36.set_2 | apply IsS36.set_3 | refine IsS36.far ?_ NB168_146.out _ | refine IsS36.far ?_ NB168_147.out _ | refine IsS36.far ?_ NB168_158.out _ | refine IsS36.far ?_ NB168_163.out _ | refine IsS36.far ?_ NB168_170.out _) | exact HI168.out))⟩; have n6_ : Aside0 (Below w.heap.size w w48) := ⟨by rw [← hq_]; exact (by repeat (first | (with_reducible first | exact HB.out | apply below_alloc | apply pw_below_drewN | apply below_drew1 | refine below_set ?_ (IsS36.ge HI168.out) | refine below_set ?_ GE146.out | refine below_set ?_ GE147.out | refine below_set ?_ GE158.out | refine below_set ?_ GE163.out | refine below_set ?_ GE170.out) | exact HB.out))⟩; clear BK146 BK147 BK158 BK163 BK170 HI168 HB hq_; have BK146 := n0_; have BK147 := n1_; have BK158 := n2_; have BK163 := n3_; have BK170 := n4_; have HI168 := n5_; have HB := n6_; clear n0_ n1_ n2_ n3_ n4_ n5_ n6_))
                    have n0_ := Aside0.mk (blk_drew BK146.out)
                    have n1_ := Aside0.mk (blk_drew BK147.out)
                    have n2_ := Aside0.mk (blk_drew BK158.out)
                    have n3_ := Aside0.mk (blk_drew BK163.out)
                    have n4_ := Aside0.mk (blk_drew BK170.out)
                    have n5_ := Aside0.mk (IsS36.drew HI168.out)
                    have n6_ := Aside0.mk (below_drew1 HB.out)
                    clear BK146
                    clear BK147
                    clear BK158
                    clear BK163
                    clear BK170
                    clear HI168
                    clear HB
                    have BK146 := n0_
                    have BK147 := n1_
                    have BK158 := n2_
                    have BK163 := n3_
                    have BK170 := n4_
                    have HI168 := n5_
                    have HB := n6_
                    clear n0_ n1_ n2_ n3_ n4_ n5_ n6_
                    refine start_ (n := 10) (S := fun w' => w'.cell? ⟨gb163, 0, none⟩ = some (.int .i64 t159) ∧ w'.cell? ⟨gb163, 1, none⟩ = some (.int .i64 t160) ∧ w'.cell? ⟨gb163, 2, none⟩ = some (.int .i64 t161) ∧ w'.cell? ⟨gb163, 3, none⟩ = some (.int .i64 t162) ∧ w'.cell? ⟨gb170, 0, none⟩ = some (.int .i64 ((rd_T40 l2 x37_1).f0)) ∧ w'.cell? ⟨gb170, 1, none⟩ = some (.int .i64 ((rd_T40 l2 x37_1).f1)) ∧ w'.cell? ⟨gb158, 0, none⟩ = some (.int .i64 t149) ∧ w'.cell? ⟨gb158, 1, none⟩ = some (.int .i64 t150) ∧ w'.cell? ⟨gb158, 2, none⟩ = some (.int .i64 t151) ∧ w'.cell? ⟨gb158, 3, none⟩ = some (.int .i64 t152) ∧ w'.cell? ⟨gb158, 4, none⟩ = some (.int .i64 t153) ∧ w'.cell? ⟨gb158, 5, none⟩ = some (.int .i64 t154) ∧ w'.cell? ⟨gb158, 6, none⟩ = some (.int .i64 t155) ∧ w'.cell? ⟨gb158, 7, none⟩ = some (.int .i64 t156) ∧ w'.cell? ⟨gb158, 8, none⟩ = some (.bool t157)) (ds := []) #[false, false, false, false, false, false, false, false, false, false] (by kernel_rfl) rfl rfl ⟨(blk_cell BK163.out 0).trans rfl, (blk_cell BK163.out 1).trans rfl, (blk_cell BK163.out 2).trans rfl, (blk_cell BK163.out 3).trans rfl, (blk_cell BK170.out 0).trans rfl, (blk_cell BK170.out 1).trans rfl, (blk_cell BK158.out 0).trans rfl, (blk_cell BK158.out 1).trans rfl, (blk_cell BK158.out 2).trans rfl, (blk_cell BK158.out 3).trans rfl, (blk_cell BK158.out 4).trans rfl, (blk_cell BK158.out 5).trans rfl, (blk_cell BK158.out 6).trans rfl, (blk_cell BK158.out 7).trans rfl, (blk_cell BK158.out 8).trans rfl⟩ (fun hHeld => ?_); refine with_tabW weighbridgelaw09_CellWaits.tab14 weighbridgelaw09_CellWaits.bits14 (fun HT_ HW_ => ?_)
                    generalize w48.drew = w49 at BK146 BK147 BK158 BK163 BK170 HI168 HB hHeld ⊢
                    refine pure_ (i := 1) (N := some 47) (v := ?_) (a' := ?_) #[false, true, false, false, false, false, false, false, false, false] rfl rfl (any_of HT_.out (by kernel_rfl)) (fun _ _ _ h => h) (Or.inl ⟨by rfl, ?_⟩) ?_ ?_
                    rotate_left
                    · intro w'
                      go_simp
                      with_reducible rfl
                    rotate_left
                    · simp only [Act.put, List.setIfInBounds_toArray, List.set_cons_zero, List.set_cons_succ, i64_w, i32_w]
                      rfl
                    refine pure_ (i := 2) (N := some 48) (v := ?_) (a' := ?_) #[false, true, true, false, false, false, false, false, false, false] rfl rfl (any_of HT_.out (by kernel_rfl)) (fun _ _ _ h => h) (Or.inl ⟨by rfl, ?_⟩) ?_ ?_
                    rotate_left
                    · intro w'
                      go_simp
                      with_reducible rfl
                    rotate_left
                    · simp only [Act.put, List.setIfInBounds_toArray, List.set_cons_zero, List.set_cons_succ, i64_w, i32_w]
                      rfl
                    refine pure_ (i := 5) (N := some 51) (v := ?_) (a' := ?_) #[false, true, true, false, false, true, false, false, false, false] rfl rfl (any_of HT_.out (by kernel_rfl)) (fun _ _ _ h => h) (Or.inl ⟨by rfl, ?_⟩) ?_ ?_
                    rotate_left
                    · intro w'
                      go_simp
                      with_reducible rfl
                    rotate_left
                    · simp only [Act.put, List.setIfInBounds_toArray, List.set_cons_zero, List.set_cons_succ, i64_w, i32_w]
                      rfl
                    refine take_ (i := 0) (N := some 46) (v := ?_) (a' := ?_) #[true, true, true, false, false, true, false, false, false, false] rfl rfl (take_ofW HT_.out HW_.out (by kernel_rfl)) (fun _ _ _ h => h) (Or.inl ⟨by rfl, ?_⟩) hHeld ?_ ?_
                    rotate_left
                    · rintro w' ⟨s0, s1, s2, s3, s4, s5, s6, s7, s8, s9, s10, s11, s12, s13, s14⟩
                      go_simp
                      with_reducible rfl
                    rotate_left
                    · simp only [Act.put, List.setIfInBounds_toArray, List.set_cons_zero, List.set_cons_succ, i64_w, i32_w]
                      rfl
                    refine take_ (i := 3) (N := some 49) (v := ?_) (a' := ?_) #[true, true, true, true, false, true, false, false, false, false] rfl rfl (take_ofW HT_.out HW_.out (by kernel_rfl)) (fun _ _ _ h => h) (Or.inl ⟨by rfl, ?_⟩) hHeld ?_ ?_
                    rotate_left
                    · rintro w' ⟨s0, s1, s2, s3, s4, s5, s6, s7, s8, s9, s10, s11, s12, s13, s14⟩
                      go_simp
                      with_reducible rfl
                    rotate_left
                    · simp only [Act.put, List.setIfInBounds_toArray, List.set_cons_zero, List.set_cons_succ, i64_w, i32_w]
                      rfl
                    refine pure_ (i := 4) (N := some 50) (v := ?_) (a' := ?_) #[true, true, true, true, true, true, false, false, false, false] rfl rfl (any_of HT_.out (by kernel_rfl)) (fun _ _ _ h => h) (Or.inl ⟨by rfl, ?_⟩) ?_ ?_
                    rotate_left
                    · intro w'
                      go_simp
                      with_reducible rfl
                    rotate_left
                    · simp only [Act.put, List.setIfInBounds_toArray, List.set_cons_zero, List.set_cons_succ, i64_w, i32_w]
                      rfl
                    refine take_ (i := 6) (N := some 52) (v := ?_) (a' := ?_) #[true, true, true, true, true, true, true, false, false, false] rfl rfl (take_ofW HT_.out HW_.out (by kernel_rfl)) (fun _ _ _ h => h) (Or.inl ⟨by rfl, ?_⟩) hHeld ?_ ?_
                    rotate_left
                    · rintro w' ⟨s0, s1, s2, s3, s4, s5, s6, s7, s8, s9, s10, s11, s12, s13, s14⟩
                      go_simp
                      with_reducible rfl
                    rotate_left
                    · simp only [Act.put, List.setIfInBounds_toArray, List.set_cons_zero, List.set_cons_succ, i64_w, i32_w]
                      rfl
                    refine pure_ (i := 7) (N := some 53) (v := ?_) (a' := ?_) #[true, true, true, true, true, true, true, true, false, false] rfl rfl (any_of HT_.out (by kernel_rfl)) (fun _ _ _ h => h) (Or.inl ⟨by rfl, ?_⟩) ?_ ?_
                    rotate_left
                    · intro w'
                      go_simp
                      with_reducible rfl
                    rotate_left
                    · simp only [Act.put, List.setIfInBounds_toArray, List.set_cons_zero, List.set_cons_succ, i64_w, i32_w]
                      rfl
                    refine pure_ (i := 8) (N := some 54) (v := ?_) (a' := ?_) #[true, true, true, true, true, true, true, true, true, false] rfl rfl (any_of HT_.out (by kernel_rfl)) (fun _ _ _ h => h) (Or.inl ⟨by rfl, ?_⟩) ?_ ?_
                    rotate_left
                    · intro w'
                      go_simp
                      with_reducible rfl
                    rotate_left
                    · simp only [Act.put, List.setIfInBounds_toArray, List.set_cons_zero, List.set_cons_succ, i64_w, i32_w]
                      rfl
                    refine one_ (i := 9) (N := some 55) #[true, true, true, true, true, true, true, true, true, true] rfl rfl (one_of HT_.out (by kernel_rfl)) (by decide) (fun K hK => ?_)
                    refine goes_ Try.func21 (by kernel_rfl) rfl #[.pointer (some ⟨gb168, 0, none⟩), .agg #[.int .i64 t159, .int .i64 t160, .int .i64 t161, .int .i64 t162], .int .i64 (wrap64 (x9_1 + t171)), .int .i64 (wrap64 ((Int.tmod (Go.bits .and .i64 ((rd_T40 l2 x37_1).f1) 31) t151) + 1))] (by rfl) rfl rfl (by (try simp only [List.map_toArray, List.map_cons, List.map_nil]); first | done | rfl | (simp only [List.length_drop, List.length_take]; rfl)) ?_
                    with_reducible refine (cell_Cell_Take.calls k1 gb168 x169000_1 x169001_1 x169002_1 x169003_1 t159 t160 t161 t162 (wrap64 (x9_1 + t171)) (wrap64 ((Int.tmod (Go.bits .and .i64 ((rd_T40 l2 x37_1).f1) 31) t151) + 1)) t172 t173 t174 t175 t176 w _ ?side1 ?side2 A40.out).mono ?_
                    (case side1 => repeat (first | (with_reducible first | exact HI168.out | apply IsS36.alloc | apply IsS36.drewN | apply IsS36.drew | apply IsS36.set_0 | apply IsS36.set_1 | apply IsS36.set_2 | apply IsS36.set_3 | refine IsS36.far ?_ NB168_146.out _ | refine IsS36.far ?_ NB168_147.out _ | refine IsS36.far ?_ NB168_158.out _ | refine IsS36.far ?_ NB168_163.out _ | refine IsS36.far ?_ NB168_170.out _) | exact HI168.out))
                    (case side2 => repeat (first | (with_reducible first | exact HB.out | apply below_alloc | apply pw_below_drewN | apply below_drew1 | refine below_set ?_ (IsS36.ge HI168.out) | refine below_set ?_ GE146.out | refine below_set ?_ GE147.out | refine below_set ?_ GE158.out | refine below_set ?_ GE163.out | refine below_set ?_ GE170.out) | exact HB.out))
                    rintro e w50 ⟨rfl, hi, hb, hk⟩
                    refine ⟨_, rfl, ?_⟩
                    have n0_ := Aside0.mk (KeepBut.blk hk (g' := gb146) (o := .cells #[.int .i64 a0_0, .int .i64 a0_1, .int .i64 a0_2] 23 (0, 0)) (by (with_reducible repeat (first | refine blk_drewN ?_ _ | refine blk_drew ?_ | refine blk_alloc ?_ _)); exact BK146.out) NB146_168.out (by simp))
                    have n1_ := Aside0.mk (KeepBut.blk hk (g' := gb147) (o := .cells #[.int .i64 a1_0, .int .i64 a1_1] 24 (0, 0)) (by (with_reducible repeat (first | refine blk_drewN ?_ _ | refine blk_drew ?_ | refine blk_alloc ?_ _)); exact BK147.out) NB147_168.out (by simp))
                    have n2_ := Aside0.mk (KeepBut.blk hk (g' := gb158) (o := .cells #[.int .i64 t149, .int .i64 t150, .int .i64 t151, .int .i64 t152, .int .i64 t153, .int .i64 t154, .int .i64 t155, .int .i64 t156, .bool t157] 28 (0, 0)) (by (with_reducible repeat (first | refine blk_drewN ?_ _ | refine blk_drew ?_ | refine blk_alloc ?_ _)); exact BK158.out) NB158_168.out (by simp))
                    have n3_ := Aside0.mk (KeepBut.blk hk (g' := gb163) (o := .cells #[.int .i64 t159, .int .i64 t160, .int .i64 t161, .int .i64 t162] 31 (0, 0)) (by (with_reducible repeat (first | refine blk_drewN ?_ _ | refine blk_drew ?_ | refine blk_alloc ?_ _)); exact BK163.out) NB163_168.out (by simp))
                    have n4_ := Aside0.mk (KeepBut.blk hk (g' := gb170) (o := .cells #[.int .i64 ((rd_T40 l2 x37_1).f0), .int .i64 ((rd_T40 l2 x37_1).f1)] 40 (0, 0)) (by (with_reducible repeat (first | refine blk_drewN ?_ _ | refine blk_drew ?_ | refine blk_alloc ?_ _)); exact BK170.out) NB170_168.out (by simp))
                    have n5_ := Aside0.mk (hb)
                    have n6_ := Aside0.mk (hi)
                    clear BK146
                    clear BK147
                    clear BK158
                    clear BK163
                    clear BK170
                    clear HB
                    clear HI168
                    have BK146 := n0_
                    have BK147 := n1_
                    have BK158 := n2_
                    have BK163 := n3_
                    have BK170 := n4_
                    have HB := n5_
                    have HI168 := n6_
                    clear n0_ n1_ n2_ n3_ n4_ n5_ n6_
                    (try clear hb)
                    (try clear hb2)
                    (try clear hk)
                    (try clear hi)
                    refine hK.out _ _ ⟨(blk_cell BK163.out 0).trans rfl, (blk_cell BK163.out 1).trans rfl, (blk_cell BK163.out 2).trans rfl, (blk_cell BK163.out 3).trans rfl, (blk_cell BK170.out 0).trans rfl, (blk_cell BK170.out 1).trans rfl, (blk_cell BK158.out 0).trans rfl, (blk_cell BK158.out 1).trans rfl, (blk_cell BK158.out 2).trans rfl, (blk_cell BK158.out 3).trans rfl, (blk_cell BK158.out 4).trans rfl, (blk_cell BK158.out 5).trans rfl, (blk_cell BK158.out 6).trans rfl, (blk_cell BK158.out 7).trans rfl, (blk_cell BK158.out 8).trans rfl⟩ (fun hHeld => ?_)
                    clear hK K
                    refine norm_ (a' := ?_) ?_ ?_
                    rotate_left
                    · show Act.put _ (some 55) _ = _
                      simp only [Act.put, List.setIfInBounds_toArray, List.set_cons_zero, List.set_cons_succ, i64_w, i32_w]
                      rfl
                    refine done_ (done_of HT_.out (by kernel_rfl)) ?_
                    try go_wp2
                    go_roundg k1
                    case measure => have := HK1.out; omega
                    case rel => exact ⟨(wrap64 (x9_1 + t171)), (wrap64 (x37_1 + 1)), (t173), (t174), (t175), (t176), (by first | rfl | (simp; done) | (simp [*]; done)), (by first | rfl | (simp; done) | (simp [*]; done)), H', ⟨by have := HK1.out; omega⟩, ⟨by (with_reducible repeat (first | refine blk_drewN ?_ _ | refine blk_drew ?_ | refine blk_alloc ?_ _)); exact BK146.out⟩, ⟨by (with_reducible repeat (first | refine blk_drewN ?_ _ | refine blk_drew ?_ | refine blk_alloc ?_ _)); exact BK147.out⟩, ⟨by (with_reducible repeat (first | refine blk_drewN ?_ _ | refine blk_drew ?_ | refine blk_alloc ?_ _)); exact BK158.out⟩, ⟨by (with_reducible repeat (first | refine blk_drewN ?_ _ | refine blk_drew ?_ | refine blk_alloc ?_ _)); exact BK163.out⟩, ⟨by repeat (first | (with_reducible first | exact HI168.out | apply IsS36.alloc | apply IsS36.drewN | apply IsS36.drew | apply IsS36.set_0 | apply IsS36.set_1 | apply IsS36.set_2 | apply IsS36.set_3 | refine IsS36.far ?_ NB168_146.out _ | refine IsS36.far ?_ NB168_147.out _ | refine IsS36.far ?_ NB168_158.out _ | refine IsS36.far ?_ NB168_163.out _ | refine IsS36.far ?_ NB168_170.out _) | exact HI168.out)⟩, ⟨by repeat (first | (with_reducible first | exact HB.out | apply below_alloc | apply pw_below_drewN | apply below_drew1 | refine below_set ?_ (IsS36.ge HI168.out) | refine below_set ?_ GE146.out | refine below_set ?_ GE147.out | refine below_set ?_ GE158.out | refine below_set ?_ GE163.out | refine below_set ?_ GE170.out) | exact HB.out)⟩⟩
                · rw [if_neg c37] at H
                  exact absurd H (by simp)
              · rw [if_neg c36] at H
                exact absurd H (by simp)
            · rw [if_neg c35] at H
              have c35b0 : decide (x37_1 < (l2.length : Int)) = false := decide_eq_false c35
              clear c35
              by_cases c51 : t151 = 0
              · rw [if_pos c51] at H
                exact absurd H (by simp)
              · rw [if_neg c51] at H
                have c51b0 : (t151 == 0) = false := beq_eq_false_iff_ne.mpr c51
                have c51b1 : (t151 != 0) = true := bne_iff_ne.mpr c51
                replace H := Option.bind_eq_some_iff.mp H
                obtain ⟨t177, A520, H⟩ := H
                replace H : ((cell_Cell_Room.f k1 x169000_1 x169001_1 x169002_1 x169003_1 t159 t160 t161 t162 x9_1).bind fun t178 => (if ((t177 == 0) == (decide ((wrap64 ((Int.tmod (Go.bits .and .i64 a1_1 31) t151) + 1)) ≤ t178))) = true then (weighbridgelaw09_CellWaits.j1 k1 x9_1 (wrap64 ((Int.tmod (Go.bits .and .i64 a1_1 31) t151) + 1)) t177 (decide (t177 < 0)) t159 t160 t161 t162 x169000_1 x169001_1 x169002_1 x169003_1) else (weighbridgelaw09_CellWaits.j1 k1 x9_1 (wrap64 ((Int.tmod (Go.bits .and .i64 a1_1 31) t151) + 1)) t177 true t159 t160 t161 t162 x169000_1 x169001_1 x169002_1 x169003_1))) = some r := H
                have A52 := Aside0.mk A520
                clear A520
                have HC53 := Aside0.mk H
                clear H
                have hnb54 := NB147_146.out
                have hnc54 := NB146_147.out
                have hnb55 := NB147_158.out
                have hnc55 := NB158_147.out
                have hnb56 := NB147_163.out
                have hnc56 := NB163_147.out
                have hnb57 := NB147_168.out
                have hnc57 := NB168_147.out
                have hcz58_0 : wr.cell? ⟨gb147, 0, none⟩ = some (.int .i64 a1_0) := (blk_cell BK147.out 0).trans rfl
                have hcz58_1 : wr.cell? ⟨gb147, 1, none⟩ = some (.int .i64 a1_1) := (blk_cell BK147.out 1).trans rfl
                have hfz58_0 := blk_frozen BK147.out 0
                have hfz58_1 := blk_frozen BK147.out 1
                have hnb59 := NB158_146.out
                have hnc59 := NB146_158.out
                have hnb60 := NB158_163.out
                have hnc60 := NB163_158.out
                have hnb61 := NB158_168.out
                have hnc61 := NB168_158.out
                have hcz62_0 : wr.cell? ⟨gb158, 0, none⟩ = some (.int .i64 t149) := (blk_cell BK158.out 0).trans rfl
                have hcz62_1 : wr.cell? ⟨gb158, 1, none⟩ = some (.int .i64 t150) := (blk_cell BK158.out 1).trans rfl
                have hcz62_2 : wr.cell? ⟨gb158, 2, none⟩ = some (.int .i64 t151) := (blk_cell BK158.out 2).trans rfl
                have hcz62_3 : wr.cell? ⟨gb158, 3, none⟩ = some (.int .i64 t152) := (blk_cell BK158.out 3).trans rfl
                have hcz62_4 : wr.cell? ⟨gb158, 4, none⟩ = some (.int .i64 t153) := (blk_cell BK158.out 4).trans rfl
                have hcz62_5 : wr.cell? ⟨gb158, 5, none⟩ = some (.int .i64 t154) := (blk_cell BK158.out 5).trans rfl
                have hcz62_6 : wr.cell? ⟨gb158, 6, none⟩ = some (.int .i64 t155) := (blk_cell BK158.out 6).trans rfl
                have hcz62_7 : wr.cell? ⟨gb158, 7, none⟩ = some (.int .i64 t156) := (blk_cell BK158.out 7).trans rfl
                have hcz62_8 : wr.cell? ⟨gb158, 8, none⟩ = some (.bool t157) := (blk_cell BK158.out 8).trans rfl
                have hfz62_0 := blk_frozen BK158.out 0
                have hfz62_1 := blk_frozen BK158.out 1
                have hfz62_2 := blk_frozen BK158.out 2
                have hfz62_3 := blk_frozen BK158.out 3
                have hfz62_4 := blk_frozen BK158.out 4
                have hfz62_5 := blk_frozen BK158.out 5
                have hfz62_6 := blk_frozen BK158.out 6
                have hfz62_7 := blk_frozen BK158.out 7
                have hfz62_8 := blk_frozen BK158.out 8
                obtain ⟨HGz63, hgz63⟩ := HI168.out
                have hcz63_0 := cellS36_0 HGz63
                have hcz63_1 := cellS36_1 HGz63
                have hcz63_2 := cellS36_2 HGz63
                have hcz63_3 := cellS36_3 HGz63
                have hfz63_0 := blk_frozen HGz63 0
                have hfz63_1 := blk_frozen HGz63 1
                have hfz63_2 := blk_frozen HGz63 2
                have hfz63_3 := blk_frozen HGz63 3
                clear HGz63 hgz63
                have hnb64 := NB163_146.out
                have hnc64 := NB146_163.out
                have hnb65 := NB163_168.out
                have hnc65 := NB168_163.out
                have hcz66_0 : wr.cell? ⟨gb163, 0, none⟩ = some (.int .i64 t159) := (blk_cell BK163.out 0).trans rfl
                have hcz66_1 : wr.cell? ⟨gb163, 1, none⟩ = some (.int .i64 t160) := (blk_cell BK163.out 1).trans rfl
                have hcz66_2 : wr.cell? ⟨gb163, 2, none⟩ = some (.int .i64 t161) := (blk_cell BK163.out 2).trans rfl
                have hcz66_3 : wr.cell? ⟨gb163, 3, none⟩ = some (.int .i64 t162) := (blk_cell BK163.out 3).trans rfl
                have hfz66_0 := blk_frozen BK163.out 0
                have hfz66_1 := blk_frozen BK163.out 1
                have hfz66_2 := blk_frozen BK163.out 2
                have hfz66_3 := blk_frozen BK163.out 3
                go_upto_region 18 with (first | ((with_reducible refine gate_callee (f := 19) rfl ?_); refine goesL_ (some 68) rfl rfl Try.func19 (by kernel_rfl) rfl #[.agg #[.int .i64 x169000_1, .int .i64 x169001_1, .int .i64 x169002_1, .int .i64 x169003_1], .agg #[.int .i64 t159, .int .i64 t160, .int .i64 t161, .int .i64 t162], .int .i64 x9_1, .int .i64 (wrap64 ((Int.tmod (Go.bits .and .i64 a1_1 31) t151) + 1))] rfl (by (try simp only [List.map_toArray, List.map_cons, List.map_nil]); first | done | rfl | (simp only [List.length_drop, List.length_take]; rfl)) ?_; (with_reducible refine (cell_Cell_Wait.calls x169000_1 x169001_1 x169002_1 x169003_1 t159 t160 t161 t162 x9_1 (wrap64 ((Int.tmod (Go.bits .and .i64 a1_1 31) t151) + 1)) t177 _ A52.out).mono ?_); rintro e w67 ⟨rfl, hb⟩; refine ⟨_, rfl, ?_⟩; have n0_ := Aside0.mk (blk_below (g := gb146) (o := .cells #[.int .i64 a0_0, .int .i64 a0_1, .int .i64 a0_2] 23 (0, 0)) (by (with_reducible repeat (first | refine blk_drewN ?_ _ | refine blk_drew ?_ | refine blk_alloc ?_ _)); exact BK146.out) hb); have n1_ := Aside0.mk (blk_below (g := gb147) (o := .cells #[.int .i64 a1_0, .int .i64 a1_1] 24 (0, 0)) (by (with_reducible repeat (first | refine blk_drewN ?_ _ | refine blk_drew ?_ | refine blk_alloc ?_ _)); exact BK147.out) hb); have n2_ := Aside0.mk (blk_below (g := gb158) (o := .cells #[.int .i64 t149, .int .i64 t150, .int .i64 t151, .int .i64 t152, .int .i64 t153, .int .i64 t154, .int .i64 t155, .int .i64 t156, .bool t157] 28 (0, 0)) (by (with_reducible repeat (first | refine blk_drewN ?_ _ | refine blk_drew ?_ | refine blk_alloc ?_ _)); exact BK158.out) hb); have n3_ := Aside0.mk (blk_below (g := gb163) (o := .cells #[.int .i64 t159, .int .i64 t160, .int .i64 t161, .int .i64 t162] 31 (0, 0)) (by (with_reducible repeat (first | refine blk_drewN ?_ _ | refine blk_drew ?_ | refine blk_alloc ?_ _)); exact BK163.out) hb); have n4_ := Aside0.mk (IsS36.below (by repeat (first | (with_reducible first | exact HI168.out | apply IsS36.alloc | apply IsS36.drewN | apply IsS36.drew | apply IsS36.set_0 | apply IsS36.set_1 | apply IsS36.set_2 | apply IsS36.set_3 | refine IsS36.far ?_ NB168_146.out _ | refine IsS36.far ?_ NB168_147.out _ | refine IsS36.far ?_ NB168_158.out _ | refine IsS36.far ?_ NB168_163.out _) | exact HI168.out)) hb); have n5_ := Aside0.mk (below_step (by repeat (first | (with_reducible first | exact HB.out | apply below_alloc | apply pw_below_drewN | apply below_drew1 | refine below_set ?_ (IsS36.ge HI168.out) | refine below_set ?_ GE146.out | refine below_set ?_ GE147.out | refine below_set ?_ GE158.out | refine below_set ?_ GE163.out) | exact HB.out)) hb); clear BK146; clear BK147; clear BK158; clear BK163; clear HI168; clear HB; have BK146 := n0_; have BK147 := n1_; have BK158 := n2_; have BK163 := n3_; have HI168 := n4_; have HB := n5_; clear n0_ n1_ n2_ n3_ n4_ n5_; (try clear hb); (try clear hb2); (try clear hk); (try clear hi)))
                (try simp only [Act.put, List.setIfInBounds_toArray, List.set_cons_zero, List.set_cons_succ])
                go_cut [81] (fun v81 wc => ∃ (kq : Nat) (x81_52 : Bool), v81 = .bool x81_52 ∧ Aside0 (weighbridgelaw09_CellWaits.j1 kq x9_1 (wrap64 ((Int.tmod (Go.bits .and .i64 a1_1 31) t151) + 1)) t177 x81_52 t159 t160 t161 t162 x169000_1 x169001_1 x169002_1 x169003_1 = some r) ∧ Aside0 (kq ≤ k1) ∧ Aside0 (wc.heap[gb146]? = some (.cells #[.int .i64 a0_0, .int .i64 a0_1, .int .i64 a0_2] 23 (0, 0))) ∧ Aside0 (wc.heap[gb147]? = some (.cells #[.int .i64 a1_0, .int .i64 a1_1] 24 (0, 0))) ∧ Aside0 (wc.heap[gb158]? = some (.cells #[.int .i64 t149, .int .i64 t150, .int .i64 t151, .int .i64 t152, .int .i64 t153, .int .i64 t154, .int .i64 t155, .int .i64 t156, .bool t157] 28 (0, 0))) ∧ Aside0 (wc.heap[gb163]? = some (.cells #[.int .i64 t159, .int .i64 t160, .int .i64 t161, .int .i64 t162] 31 (0, 0))) ∧ Aside0 (IsS36 w wc gb168 x169000_1 x169001_1 x169002_1 x169003_1) ∧ Aside0 (Below w.heap.size w wc))
                case first =>
                  have H := HC53.out
                  clear HC53
                  replace H := Option.bind_eq_some_iff.mp H
                  obtain ⟨t178, A680, H⟩ := H
                  replace H : (if ((t177 == 0) == (decide ((wrap64 ((Int.tmod (Go.bits .and .i64 a1_1 31) t151) + 1)) ≤ t178))) = true then (weighbridgelaw09_CellWaits.j1 k1 x9_1 (wrap64 ((Int.tmod (Go.bits .and .i64 a1_1 31) t151) + 1)) t177 (decide (t177 < 0)) t159 t160 t161 t162 x169000_1 x169001_1 x169002_1 x169003_1) else (weighbridgelaw09_CellWaits.j1 k1 x9_1 (wrap64 ((Int.tmod (Go.bits .and .i64 a1_1 31) t151) + 1)) t177 true t159 t160 t161 t162 x169000_1 x169001_1 x169002_1 x169003_1)) = some r := H
                  have A68 := Aside0.mk A680
                  clear A680
                  by_cases c69 : ((t177 == 0) == (decide ((wrap64 ((Int.tmod (Go.bits .and .i64 a1_1 31) t151) + 1)) ≤ t178))) = true
                  · rw [if_pos c69] at H
                    have c69b0 : ((t177 == 0) == (decide ((wrap64 ((Int.tmod (Go.bits .and .i64 a1_1 31) t151) + 1)) ≤ t178))) = true := c69
                    (try (have c69b1 : decide ((t177 == 0) = (decide ((wrap64 ((Int.tmod (Go.bits .and .i64 a1_1 31) t151) + 1)) ≤ t178))) = true := by simpa using c69))
                    (try (have c69b2 : ((t177 == 0) == (decide ((wrap64 ((Int.tmod (Go.bits .and .i64 a1_1 31) t151) + 1)) ≤ t178))) = true := by simpa using c69))
                    clear c69
                    (first | rw [c69b0] | (simp only [i64_w, i32_w]; rw [c69b0]) | skip)
                    have H' := Aside0.mk H
                    clear H
                    obtain ⟨HGz70, hgz70⟩ := HI168.out
                    have hcz70_0 := cellS36_0 HGz70
                    have hcz70_1 := cellS36_1 HGz70
                    have hcz70_2 := cellS36_2 HGz70
                    have hcz70_3 := cellS36_3 HGz70
                    have hfz70_0 := blk_frozen HGz70 0
                    have hfz70_1 := blk_frozen HGz70 1
                    have hfz70_2 := blk_frozen HGz70 2
                    have hfz70_3 := blk_frozen HGz70 3
                    clear HGz70 hgz70
                    have hnb71 := NB163_146.out
                    have hnc71 := NB146_163.out
                    have hnb72 := NB163_147.out
                    have hnc72 := NB147_163.out
                    have hnb73 := NB163_158.out
                    have hnc73 := NB158_163.out
                    have hnb74 := NB163_168.out
                    have hnc74 := NB168_163.out
                    have hcz75_0 : w67.cell? ⟨gb163, 0, none⟩ = some (.int .i64 t159) := (blk_cell BK163.out 0).trans rfl
                    have hcz75_1 : w67.cell? ⟨gb163, 1, none⟩ = some (.int .i64 t160) := (blk_cell BK163.out 1).trans rfl
                    have hcz75_2 : w67.cell? ⟨gb163, 2, none⟩ = some (.int .i64 t161) := (blk_cell BK163.out 2).trans rfl
                    have hcz75_3 : w67.cell? ⟨gb163, 3, none⟩ = some (.int .i64 t162) := (blk_cell BK163.out 3).trans rfl
                    have hfz75_0 := blk_frozen BK163.out 0
                    have hfz75_1 := blk_frozen BK163.out 1
                    have hfz75_2 := blk_frozen BK163.out 2
                    have hfz75_3 := blk_frozen BK163.out 3
                    go_wp2_with (first | ((with_reducible refine gate_callee (f := 17) rfl ?_); refine goesL_ (some 75) rfl rfl Try.func17 (by kernel_rfl) rfl #[.agg #[.int .i64 x169000_1, .int .i64 x169001_1, .int .i64 x169002_1, .int .i64 x169003_1], .agg #[.int .i64 t159, .int .i64 t160, .int .i64 t161, .int .i64 t162], .int .i64 x9_1] rfl (by (try simp only [List.map_toArray, List.map_cons, List.map_nil]); first | done | rfl | (simp only [List.length_drop, List.length_take]; rfl)) ?_; (with_reducible refine (cell_Cell_Room.calls k1 x169000_1 x169001_1 x169002_1 x169003_1 t159 t160 t161 t162 x9_1 t178 _ A68.out).mono ?_); rintro e w76 ⟨rfl, hb⟩; refine ⟨_, rfl, ?_⟩; have n0_ := Aside0.mk (blk_below (g := gb146) (o := .cells #[.int .i64 a0_0, .int .i64 a0_1, .int .i64 a0_2] 23 (0, 0)) (by (with_reducible repeat (first | refine blk_drewN ?_ _ | refine blk_drew ?_ | refine blk_alloc ?_ _)); exact BK146.out) hb); have n1_ := Aside0.mk (blk_below (g := gb147) (o := .cells #[.int .i64 a1_0, .int .i64 a1_1] 24 (0, 0)) (by (with_reducible repeat (first | refine blk_drewN ?_ _ | refine blk_drew ?_ | refine blk_alloc ?_ _)); exact BK147.out) hb); have n2_ := Aside0.mk (blk_below (g := gb158) (o := .cells #[.int .i64 t149, .int .i64 t150, .int .i64 t151, .int .i64 t152, .int .i64 t153, .int .i64 t154, .int .i64 t155, .int .i64 t156, .bool t157] 28 (0, 0)) (by (with_reducible repeat (first | refine blk_drewN ?_ _ | refine blk_drew ?_ | refine blk_alloc ?_ _)); exact BK158.out) hb); have n3_ := Aside0.mk (blk_below (g := gb163) (o := .cells #[.int .i64 t159, .int .i64 t160, .int .i64 t161, .int .i64 t162] 31 (0, 0)) (by (with_reducible repeat (first | refine blk_drewN ?_ _ | refine blk_drew ?_ | refine blk_alloc ?_ _)); exact BK163.out) hb); have n4_ := Aside0.mk (IsS36.below (by repeat (first | (with_reducible first | exact HI168.out | apply IsS36.alloc | apply IsS36.drewN | apply IsS36.drew | apply IsS36.set_0 | apply IsS36.set_1 | apply IsS36.set_2 | apply IsS36.set_3 | refine IsS36.far ?_ NB168_146.out _ | refine IsS36.far ?_ NB168_147.out _ | refine IsS36.far ?_ NB168_158.out _ | refine IsS36.far ?_ NB168_163.out _) | exact HI168.out)) hb); have n5_ := Aside0.mk (below_step (by repeat (first | (with_reducible first | exact HB.out | apply below_alloc | apply pw_below_drewN | apply below_drew1 | refine below_set ?_ (IsS36.ge HI168.out) | refine below_set ?_ GE146.out | refine below_set ?_ GE147.out | refine below_set ?_ GE158.out | refine below_set ?_ GE163.out) | exact HB.out)) hb); clear BK146; clear BK147; clear BK158; clear BK163; clear HI168; clear HB; have BK146 := n0_; have BK147 := n1_; have BK158 := n2_; have BK163 := n3_; have HI168 := n4_; have HB := n5_; clear n0_ n1_ n2_ n3_ n4_ n5_; (try clear hb); (try clear hb2); (try clear hk); (try clear hi)))
                    go_meet
                    case rel => exact ⟨_, (decide (t177 < 0)), (by first | rfl | (simp; done) | (simp [*]; done)), H', ⟨by have := HK1.out; first | omega | exact Nat.le_refl _⟩, ⟨by (with_reducible repeat (first | refine blk_drewN ?_ _ | refine blk_drew ?_ | refine blk_alloc ?_ _)); exact BK146.out⟩, ⟨by (with_reducible repeat (first | refine blk_drewN ?_ _ | refine blk_drew ?_ | refine blk_alloc ?_ _)); exact BK147.out⟩, ⟨by (with_reducible repeat (first | refine blk_drewN ?_ _ | refine blk_drew ?_ | refine blk_alloc ?_ _)); exact BK158.out⟩, ⟨by (with_reducible repeat (first | refine blk_drewN ?_ _ | refine blk_drew ?_ | refine blk_alloc ?_ _)); exact BK163.out⟩, ⟨by repeat (first | (with_reducible first | exact HI168.out | apply IsS36.alloc | apply IsS36.drewN | apply IsS36.drew | apply IsS36.set_0 | apply IsS36.set_1 | apply IsS36.set_2 | apply IsS36.set_3 | refine IsS36.far ?_ NB168_146.out _ | refine IsS36.far ?_ NB168_147.out _ | refine IsS36.far ?_ NB168_158.out _ | refine IsS36.far ?_ NB168_163.out _) | exact HI168.out)⟩, ⟨by repeat (first | (with_reducible first | exact HB.out | apply below_alloc | apply pw_below_drewN | apply below_drew1 | refine below_set ?_ (IsS36.ge HI168.out) | refine below_set ?_ GE146.out | refine below_set ?_ GE147.out | refine below_set ?_ GE158.out | refine below_set ?_ GE163.out) | exact HB.out)⟩⟩
                  · rw [if_neg c69] at H
                    have c69b0 : ((t177 == 0) == (decide ((wrap64 ((Int.tmod (Go.bits .and .i64 a1_1 31) t151) + 1)) ≤ t178))) = false := by simpa using c69
                    (try (have c69b1 : decide ((t177 == 0) = (decide ((wrap64 ((Int.tmod (Go.bits .and .i64 a1_1 31) t151) + 1)) ≤ t178))) = false := by simpa using c69))
                    (try (have c69b2 : ((t177 == 0) == (decide ((wrap64 ((Int.tmod (Go.bits .and .i64 a1_1 31) t151) + 1)) ≤ t178))) = false := by simpa using c69))
                    (try (have c69b3 : ¬ ((t177 == 0) = (decide ((wrap64 ((Int.tmod (Go.bits .and .i64 a1_1 31) t151) + 1)) ≤ t178))) := by simpa using c69))
                    clear c69
                    (first | rw [c69b0] | (simp only [i64_w, i32_w]; rw [c69b0]) | skip)
                    have H' := Aside0.mk H
                    clear H
                    obtain ⟨HGz77, hgz77⟩ := HI168.out
                    have hcz77_0 := cellS36_0 HGz77
                    have hcz77_1 := cellS36_1 HGz77
                    have hcz77_2 := cellS36_2 HGz77
                    have hcz77_3 := cellS36_3 HGz77
                    have hfz77_0 := blk_frozen HGz77 0
                    have hfz77_1 := blk_frozen HGz77 1
                    have hfz77_2 := blk_frozen HGz77 2
                    have hfz77_3 := blk_frozen HGz77 3
                    clear HGz77 hgz77
                    have hnb78 := NB163_146.out
                    have hnc78 := NB146_163.out
                    have hnb79 := NB163_147.out
                    have hnc79 := NB147_163.out
                    have hnb80 := NB163_158.out
                    have hnc80 := NB158_163.out
                    have hnb81 := NB163_168.out
                    have hnc81 := NB168_163.out
                    have hcz82_0 : w67.cell? ⟨gb163, 0, none⟩ = some (.int .i64 t159) := (blk_cell BK163.out 0).trans rfl
                    have hcz82_1 : w67.cell? ⟨gb163, 1, none⟩ = some (.int .i64 t160) := (blk_cell BK163.out 1).trans rfl
                    have hcz82_2 : w67.cell? ⟨gb163, 2, none⟩ = some (.int .i64 t161) := (blk_cell BK163.out 2).trans rfl
                    have hcz82_3 : w67.cell? ⟨gb163, 3, none⟩ = some (.int .i64 t162) := (blk_cell BK163.out 3).trans rfl
                    have hfz82_0 := blk_frozen BK163.out 0
                    have hfz82_1 := blk_frozen BK163.out 1
                    have hfz82_2 := blk_frozen BK163.out 2
                    have hfz82_3 := blk_frozen BK163.out 3
                    go_wp2_with (first | ((with_reducible refine gate_callee (f := 17) rfl ?_); refine goesL_ (some 75) rfl rfl Try.func17 (by kernel_rfl) rfl #[.agg #[.int .i64 x169000_1, .int .i64 x169001_1, .int .i64 x169002_1, .int .i64 x169003_1], .agg #[.int .i64 t159, .int .i64 t160, .int .i64 t161, .int .i64 t162], .int .i64 x9_1] rfl (by (try simp only [List.map_toArray, List.map_cons, List.map_nil]); first | done | rfl | (simp only [List.length_drop, List.length_take]; rfl)) ?_; (with_reducible refine (cell_Cell_Room.calls k1 x169000_1 x169001_1 x169002_1 x169003_1 t159 t160 t161 t162 x9_1 t178 _ A68.out).mono ?_); rintro e w83 ⟨rfl, hb⟩; refine ⟨_, rfl, ?_⟩; have n0_ := Aside0.mk (blk_below (g := gb146) (o := .cells #[.int .i64 a0_0, .int .i64 a0_1, .int .i64 a0_2] 23 (0, 0)) (by (with_reducible repeat (first | refine blk_drewN ?_ _ | refine blk_drew ?_ | refine blk_alloc ?_ _)); exact BK146.out) hb); have n1_ := Aside0.mk (blk_below (g := gb147) (o := .cells #[.int .i64 a1_0, .int .i64 a1_1] 24 (0, 0)) (by (with_reducible repeat (first | refine blk_drewN ?_ _ | refine blk_drew ?_ | refine blk_alloc ?_ _)); exact BK147.out) hb); have n2_ := Aside0.mk (blk_below (g := gb158) (o := .cells #[.int .i64 t149, .int .i64 t150, .int .i64 t151, .int .i64 t152, .int .i64 t153, .int .i64 t154, .int .i64 t155, .int .i64 t156, .bool t157] 28 (0, 0)) (by (with_reducible repeat (first | refine blk_drewN ?_ _ | refine blk_drew ?_ | refine blk_alloc ?_ _)); exact BK158.out) hb); have n3_ := Aside0.mk (blk_below (g := gb163) (o := .cells #[.int .i64 t159, .int .i64 t160, .int .i64 t161, .int .i64 t162] 31 (0, 0)) (by (with_reducible repeat (first | refine blk_drewN ?_ _ | refine blk_drew ?_ | refine blk_alloc ?_ _)); exact BK163.out) hb); have n4_ := Aside0.mk (IsS36.below (by repeat (first | (with_reducible first | exact HI168.out | apply IsS36.alloc | apply IsS36.drewN | apply IsS36.drew | apply IsS36.set_0 | apply IsS36.set_1 | apply IsS36.set_2 | apply IsS36.set_3 | refine IsS36.far ?_ NB168_146.out _ | refine IsS36.far ?_ NB168_147.out _ | refine IsS36.far ?_ NB168_158.out _ | refine IsS36.far ?_ NB168_163.out _) | exact HI168.out)) hb); have n5_ := Aside0.mk (below_step (by repeat (first | (with_reducible first | exact HB.out | apply below_alloc | apply pw_below_drewN | apply below_drew1 | refine below_set ?_ (IsS36.ge HI168.out) | refine below_set ?_ GE146.out | refine below_set ?_ GE147.out | refine below_set ?_ GE158.out | refine below_set ?_ GE163.out) | exact HB.out)) hb); clear BK146; clear BK147; clear BK158; clear BK163; clear HI168; clear HB; have BK146 := n0_; have BK147 := n1_; have BK158 := n2_; have BK163 := n3_; have HI168 := n4_; have HB := n5_; clear n0_ n1_ n2_ n3_ n4_ n5_; (try clear hb); (try clear hb2); (try clear hk); (try clear hi)))
                    go_meet
                    case rel => exact ⟨_, (true), (by first | rfl | (simp; done) | (simp [*]; done)), H', ⟨by have := HK1.out; first | omega | exact Nat.le_refl _⟩, ⟨by (with_reducible repeat (first | refine blk_drewN ?_ _ | refine blk_drew ?_ | refine blk_alloc ?_ _)); exact BK146.out⟩, ⟨by (with_reducible repeat (first | refine blk_drewN ?_ _ | refine blk_drew ?_ | refine blk_alloc ?_ _)); exact BK147.out⟩, ⟨by (with_reducible repeat (first | refine blk_drewN ?_ _ | refine blk_drew ?_ | refine blk_alloc ?_ _)); exact BK158.out⟩, ⟨by (with_reducible repeat (first | refine blk_drewN ?_ _ | refine blk_drew ?_ | refine blk_alloc ?_ _)); exact BK163.out⟩, ⟨by repeat (first | (with_reducible first | exact HI168.out | apply IsS36.alloc | apply IsS36.drewN | apply IsS36.drew | apply IsS36.set_0 | apply IsS36.set_1 | apply IsS36.set_2 | apply IsS36.set_3 | refine IsS36.far ?_ NB168_146.out _ | refine IsS36.far ?_ NB168_147.out _ | refine IsS36.far ?_ NB168_158.out _ | refine IsS36.far ?_ NB168_163.out _) | exact HI168.out)⟩, ⟨by repeat (first | (with_reducible first | exact HB.out | apply below_alloc | apply pw_below_drewN | apply below_drew1 | refine below_set ?_ (IsS36.ge HI168.out) | refine below_set ?_ GE146.out | refine below_set ?_ GE147.out | refine below_set ?_ GE158.out | refine below_set ?_ GE163.out) | exact HB.out)⟩⟩
                case rest =>
                  clear HC53
                  try clear c1
                  try clear p1
                  try clear q1
                  try clear hx1
                  try clear c2
                  try clear p2
                  try clear c3
                  try clear c4
                  try clear c5
                  try clear c6
                  try clear c6b0
                  try clear c6b1
                  try clear p6
                  try clear c7
                  try clear c8
                  try clear c11
                  try clear c12
                  try clear c12b0
                  try clear c12b1
                  try clear c13
                  try clear c15
                  try clear c16
                  try clear p16
                  try clear q16
                  try clear hx16
                  try clear c17
                  try clear c19
                  try clear c21
                  try clear c22
                  try clear c26
                  try clear c27
                  try clear c28
                  try clear c35
                  try clear c35b0
                  try clear c36
                  try clear c36b0
                  try clear c37
                  try clear c37b0
                  try clear c39
                  try clear c39b0
                  try clear c39b1
                  try clear c42
                  try clear c43
                  try clear c44
                  try clear c45
                  try clear c46
                  try clear c51
                  try clear c51b0
                  try clear c51b1
                  try clear c54
                  try clear c55
                  try clear c56
                  try clear c57
                  try clear c59
                  try clear c60
                  try clear c61
                  try clear c64
                  try clear p64
                  try clear c65
                  try clear c69
                  try clear c69b0
                  try clear c69b1
                  try clear c69b2
                  try clear c71
                  try clear c72
                  try clear c73
                  try clear c74
                  try clear c78
                  try clear c79
                  try clear c80
                  try clear c81
                  try clear hcz18_0
                  try clear hcz18_1
                  try clear hcz18_2
                  try clear hcz23_0
                  try clear hcz23_1
                  try clear hcz23_2
                  try clear hcz23_3
                  try clear hcz23_4
                  try clear hcz23_5
                  try clear hcz23_6
                  try clear hcz23_7
                  try clear hcz23_8
                  try clear hcz29_0
                  try clear hcz29_1
                  try clear hcz29_2
                  try clear hcz29_3
                  try clear hcz30_0
                  try clear hcz30_1
                  try clear hcz31_0
                  try clear hcz31_1
                  try clear hcz31_2
                  try clear hcz31_3
                  try clear hcz31_4
                  try clear hcz31_5
                  try clear hcz31_6
                  try clear hcz31_7
                  try clear hcz31_8
                  try clear hcz34_0
                  try clear hcz34_1
                  try clear hcz34_2
                  try clear hcz34_3
                  try clear hcz47_0
                  try clear hcz47_1
                  try clear hcz58_0
                  try clear hcz58_1
                  try clear hcz62_0
                  try clear hcz62_1
                  try clear hcz62_2
                  try clear hcz62_3
                  try clear hcz62_4
                  try clear hcz62_5
                  try clear hcz62_6
                  try clear hcz62_7
                  try clear hcz62_8
                  try clear hcz63_0
                  try clear hcz63_1
                  try clear hcz63_2
                  try clear hcz63_3
                  try clear hcz66_0
                  try clear hcz66_1
                  try clear hcz66_2
                  try clear hcz66_3
                  try clear hcz70_0
                  try clear hcz70_1
                  try clear hcz70_2
                  try clear hcz70_3
                  try clear hcz75_0
                  try clear hcz75_1
                  try clear hcz75_2
                  try clear hcz75_3
                  try clear hcz77_0
                  try clear hcz77_1
                  try clear hcz77_2
                  try clear hcz77_3
                  try clear hcz82_0
                  try clear hcz82_1
                  try clear hcz82_2
                  try clear hcz82_3
                  try clear hfz18_0
                  try clear hfz18_1
                  try clear hfz18_2
                  try clear hfz23_0
                  try clear hfz23_1
                  try clear hfz23_2
                  try clear hfz23_3
                  try clear hfz23_4
                  try clear hfz23_5
                  try clear hfz23_6
                  try clear hfz23_7
                  try clear hfz23_8
                  try clear hfz29_0
                  try clear hfz29_1
                  try clear hfz29_2
                  try clear hfz29_3
                  try clear hfz30_0
                  try clear hfz30_1
                  try clear hfz31_0
                  try clear hfz31_1
                  try clear hfz31_2
                  try clear hfz31_3
                  try clear hfz31_4
                  try clear hfz31_5
                  try clear hfz31_6
                  try clear hfz31_7
                  try clear hfz31_8
                  try clear hfz34_0
                  try clear hfz34_1
                  try clear hfz34_2
                  try clear hfz34_3
                  try clear hfz47_0
                  try clear hfz47_1
                  try clear hfz58_0
                  try clear hfz58_1
                  try clear hfz62_0
                  try clear hfz62_1
                  try clear hfz62_2
                  try clear hfz62_3
                  try clear hfz62_4
                  try clear hfz62_5
                  try clear hfz62_6
                  try clear hfz62_7
                  try clear hfz62_8
                  try clear hfz63_0
                  try clear hfz63_1
                  try clear hfz63_2
                  try clear hfz63_3
                  try clear hfz66_0
                  try clear hfz66_1
                  try clear hfz66_2
                  try clear hfz66_3
                  try clear hfz70_0
                  try clear hfz70_1
                  try clear hfz70_2
                  try clear hfz70_3
                  try clear hfz75_0
                  try clear hfz75_1
                  try clear hfz75_2
                  try clear hfz75_3
                  try clear hfz77_0
                  try clear hfz77_1
                  try clear hfz77_2
                  try clear hfz77_3
                  try clear hfz82_0
                  try clear hfz82_1
                  try clear hfz82_2
                  try clear hfz82_3
                  try clear hx169_0
                  try clear hx169_1
                  try clear p169
                  try clear p2
                  try clear p6
                  try clear q169
                  obtain ⟨kq, x81_52, rfl, HA, HJ52, BK146, BK147, BK158, BK163, HI168, HB⟩ := hcut
                  cases kq with
                  | zero => exact absurd HA.out (by simp [weighbridgelaw09_CellWaits.j1])
                  | succ kj52 =>
                    have H := HA.out
                    clear HA
                    simp only [weighbridgelaw09_CellWaits.j1] at H
                    by_cases c84 : x81_52 = true
                    · subst c84
                      have H1 : (some false) = some r := by rw [if_pos rfl] at H; exact H
                      clear H
                      have H := H1
                      clear H1
                      exact absurd (Option.some.inj H) (by rw [hr_.out]; decide)
                    · replace c84 := Bool.eq_false_iff.mpr c84
                      subst c84
                      have H1 : (if t177 > 0 then ((cell_Cell_Room.f kj52 x169000_1 x169001_1 x169002_1 x169003_1 t159 t160 t161 t162 (wrap64 ((wrap64 (x9_1 + t177)) - 1))).bind fun t179 => (if (wrap64 ((Int.tmod (Go.bits .and .i64 a1_1 31) t151) + 1)) ≤ t179 then (some false) else ((cell_Cell_Take.f kj52 x169000_1 x169001_1 x169002_1 x169003_1 t159 t160 t161 t162 (wrap64 (x9_1 + t177)) (wrap64 ((Int.tmod (Go.bits .and .i64 a1_1 31) t151) + 1))).bind fun bt180 => (some bt180.1)))) else ((cell_Cell_Take.f kj52 x169000_1 x169001_1 x169002_1 x169003_1 t159 t160 t161 t162 (wrap64 (x9_1 + t177)) (wrap64 ((Int.tmod (Go.bits .and .i64 a1_1 31) t151) + 1))).bind fun bt185 => (some bt185.1))) = some r := by rw [if_neg (show ¬ (false = true) by decide)] at H; exact H
                      clear H
                      have H := H1
                      clear H1
                      by_cases c85 : t177 > 0
                      · rw [if_pos c85] at H
                        have c85b0 : decide (0 < t177) = true := decide_eq_true c85
                        clear c85
                        replace H := Option.bind_eq_some_iff.mp H
                        obtain ⟨t179, A860, H⟩ := H
                        replace H : (if (wrap64 ((Int.tmod (Go.bits .and .i64 a1_1 31) t151) + 1)) ≤ t179 then (some false) else ((cell_Cell_Take.f kj52 x169000_1 x169001_1 x169002_1 x169003_1 t159 t160 t161 t162 (wrap64 (x9_1 + t177)) (wrap64 ((Int.tmod (Go.bits .and .i64 a1_1 31) t151) + 1))).bind fun bt180 => (some bt180.1))) = some r := H
                        have A86 := Aside0.mk A860
                        clear A860
                        by_cases c87 : (wrap64 ((Int.tmod (Go.bits .and .i64 a1_1 31) t151) + 1)) ≤ t179
                        · rw [if_pos c87] at H
                          have c87b0 : decide ((wrap64 ((Int.tmod (Go.bits .and .i64 a1_1 31) t151) + 1)) ≤ t179) = true := decide_eq_true c87
                          clear c87
                          exact absurd (Option.some.inj H) (by rw [hr_.out]; decide)
                        · rw [if_neg c87] at H
                          have c87b0 : decide ((wrap64 ((Int.tmod (Go.bits .and .i64 a1_1 31) t151) + 1)) ≤ t179) = false := decide_eq_false c87
                          clear c87
                          replace H := Option.bind_eq_some_iff.mp H
                          obtain ⟨⟨t180, t181, t182, t183, t184⟩, A880, H⟩ := H
                          replace H : (some t180) = some r := H
                          have A88 := Aside0.mk A880
                          clear A880
                          obtain rfl := Option.some.inj H
                          obtain ⟨HGz89, hgz89⟩ := HI168.out
                          have hcz89_0 := cellS36_0 HGz89
                          have hcz89_1 := cellS36_1 HGz89
                          have hcz89_2 := cellS36_2 HGz89
                          have hcz89_3 := cellS36_3 HGz89
                          have hfz89_0 := blk_frozen HGz89 0
                          have hfz89_1 := blk_frozen HGz89 1
                          have hfz89_2 := blk_frozen HGz89 2
                          have hfz89_3 := blk_frozen HGz89 3
                          clear HGz89 hgz89
                          have hnb90 := NB163_146.out
                          have hnc90 := NB146_163.out
                          have hnb91 := NB163_147.out
                          have hnc91 := NB147_163.out
                          have hnb92 := NB163_158.out
                          have hnc92 := NB158_163.out
                          have hnb93 := NB163_168.out
                          have hnc93 := NB168_163.out
                          have hcz94_0 : wc.cell? ⟨gb163, 0, none⟩ = some (.int .i64 t159) := (blk_cell BK163.out 0).trans rfl
                          have hcz94_1 : wc.cell? ⟨gb163, 1, none⟩ = some (.int .i64 t160) := (blk_cell BK163.out 1).trans rfl
                          have hcz94_2 : wc.cell? ⟨gb163, 2, none⟩ = some (.int .i64 t161) := (blk_cell BK163.out 2).trans rfl
                          have hcz94_3 : wc.cell? ⟨gb163, 3, none⟩ = some (.int .i64 t162) := (blk_cell BK163.out 3).trans rfl
                          have hfz94_0 := blk_frozen BK163.out 0
                          have hfz94_1 := blk_frozen BK163.out 1
                          have hfz94_2 := blk_frozen BK163.out 2
                          have hfz94_3 := blk_frozen BK163.out 3
                          go_wp2_with (first | (go_at_call 17; (with_reducible refine (cell_Cell_Room.calls kj52 x169000_1 x169001_1 x169002_1 x169003_1 t159 t160 t161 t162 (wrap64 ((wrap64 (x9_1 + t177)) - 1)) t179 _ A86.out).mono ?_); rintro e w95 ⟨rfl, hb⟩; have n0_ := Aside0.mk (blk_below (g := gb146) (o := .cells #[.int .i64 a0_0, .int .i64 a0_1, .int .i64 a0_2] 23 (0, 0)) (by (with_reducible repeat (first | refine blk_drewN ?_ _ | refine blk_drew ?_ | refine blk_alloc ?_ _)); exact BK146.out) hb); have n1_ := Aside0.mk (blk_below (g := gb147) (o := .cells #[.int .i64 a1_0, .int .i64 a1_1] 24 (0, 0)) (by (with_reducible repeat (first | refine blk_drewN ?_ _ | refine blk_drew ?_ | refine blk_alloc ?_ _)); exact BK147.out) hb); have n2_ := Aside0.mk (blk_below (g := gb158) (o := .cells #[.int .i64 t149, .int .i64 t150, .int .i64 t151, .int .i64 t152, .int .i64 t153, .int .i64 t154, .int .i64 t155, .int .i64 t156, .bool t157] 28 (0, 0)) (by (with_reducible repeat (first | refine blk_drewN ?_ _ | refine blk_drew ?_ | refine blk_alloc ?_ _)); exact BK158.out) hb); have n3_ := Aside0.mk (blk_below (g := gb163) (o := .cells #[.int .i64 t159, .int .i64 t160, .int .i64 t161, .int .i64 t162] 31 (0, 0)) (by (with_reducible repeat (first | refine blk_drewN ?_ _ | refine blk_drew ?_ | refine blk_alloc ?_ _)); exact BK163.out) hb); have n4_ := Aside0.mk (IsS36.below (by repeat (first | (with_reducible first | exact HI168.out | apply IsS36.alloc | apply IsS36.drewN | apply IsS36.drew | apply IsS36.set_0 | apply IsS36.set_1 | apply IsS36.set_2 | apply IsS36.set_3 | refine IsS36.far ?_ NB168_146.out _ | refine IsS36.far ?_ NB168_147.out _ | refine IsS36.far ?_ NB168_158.out _ | refine IsS36.far ?_ NB168_163.out _) | exact HI168.out)) hb); have n5_ := Aside0.mk (below_step (by repeat (first | (with_reducible first | exact HB.out | apply below_alloc | apply pw_below_drewN | apply below_drew1 | refine below_set ?_ (IsS36.ge HI168.out) | refine below_set ?_ GE146.out | refine below_set ?_ GE147.out | refine below_set ?_ GE158.out | refine below_set ?_ GE163.out) | exact HB.out)) hb); clear BK146; clear BK147; clear BK158; clear BK163; clear HI168; clear HB; have BK146 := n0_; have BK147 := n1_; have BK158 := n2_; have BK163 := n3_; have HI168 := n4_; have HB := n5_; clear n0_ n1_ n2_ n3_ n4_ n5_; (try clear hb); (try clear hb2); (try clear hk); (try clear hi); have hcz96_0 : w95.cell? ⟨gb163, 0, none⟩ = some (.int .i64 t159) := (blk_cell BK163.out 0).trans rfl; have hcz96_1 : w95.cell? ⟨gb163, 1, none⟩ = some (.int .i64 t160) := (blk_cell BK163.out 1).trans rfl; have hcz96_2 : w95.cell? ⟨gb163, 2, none⟩ = some (.int .i64 t161) := (blk_cell BK163.out 2).trans rfl; have hcz96_3 : w95.cell? ⟨gb163, 3, none⟩ = some (.int .i64 t162) := (blk_cell BK163.out 3).trans rfl; have hfz96_0 := blk_frozen BK163.out 0; have hfz96_1 := blk_frozen BK163.out 1; have hfz96_2 := blk_frozen BK163.out 2; have hfz96_3 := blk_frozen BK163.out 3) | ((with_reducible refine gate_callee (f := 21) rfl ?_); refine goesL_ (some 100) rfl rfl Try.func21 (by kernel_rfl) rfl #[.pointer (some ⟨gb168, 0, none⟩), .agg #[.int .i64 t159, .int .i64 t160, .int .i64 t161, .int .i64 t162], .int .i64 (wrap64 (x9_1 + t177)), .int .i64 (wrap64 ((Int.tmod (Go.bits .and .i64 a1_1 31) t151) + 1))] rfl (by (try simp only [List.map_toArray, List.map_cons, List.map_nil]); first | done | rfl | (simp only [List.length_drop, List.length_take]; rfl)) ?_; (with_reducible refine (cell_Cell_Take.calls kj52 gb168 x169000_1 x169001_1 x169002_1 x169003_1 t159 t160 t161 t162 (wrap64 (x9_1 + t177)) (wrap64 ((Int.tmod (Go.bits .and .i64 a1_1 31) t151) + 1)) t180 t181 t182 t183 t184 w _ ?side1 ?side2 A88.out).mono ?_); (case side1 => repeat (first | (with_reducible first | exact HI168.out | apply IsS36.alloc | apply IsS36.drewN | apply IsS36.drew | apply IsS36.set_0 | apply IsS36.set_1 | apply IsS36.set_2 | apply IsS36.set_3 | refine IsS36.far ?_ NB168_146.out _ | refine IsS36.far ?_ NB168_147.out _ | refine IsS36.far ?_ NB168_158.out _ | refine IsS36.far ?_ NB168_163.out _) | exact HI168.out)); (case side2 => repeat (first | (with_reducible first | exact HB.out | apply below_alloc | apply pw_below_drewN | apply below_drew1 | refine below_set ?_ (IsS36.ge HI168.out) | refine below_set ?_ GE146.out | refine below_set ?_ GE147.out | refine below_set ?_ GE158.out | refine below_set ?_ GE163.out) | exact HB.out)); rintro e w97 ⟨rfl, hi, hb, hk⟩; refine ⟨_, rfl, ?_⟩; have n0_ := Aside0.mk (KeepBut.blk hk (g' := gb146) (o := .cells #[.int .i64 a0_0, .int .i64 a0_1, .int .i64 a0_2] 23 (0, 0)) (by (with_reducible repeat (first | refine blk_drewN ?_ _ | refine blk_drew ?_ | refine blk_alloc ?_ _)); exact BK146.out) NB146_168.out (by simp)); have n1_ := Aside0.mk (KeepBut.blk hk (g' := gb147) (o := .cells #[.int .i64 a1_0, .int .i64 a1_1] 24 (0, 0)) (by (with_reducible repeat (first | refine blk_drewN ?_ _ | refine blk_drew ?_ | refine blk_alloc ?_ _)); exact BK147.out) NB147_168.out (by simp)); have n2_ := Aside0.mk (KeepBut.blk hk (g' := gb158) (o := .cells #[.int .i64 t149, .int .i64 t150, .int .i64 t151, .int .i64 t152, .int .i64 t153, .int .i64 t154, .int .i64 t155, .int .i64 t156, .bool t157] 28 (0, 0)) (by (with_reducible repeat (first | refine blk_drewN ?_ _ | refine blk_drew ?_ | refine blk_alloc ?_ _)); exact BK158.out) NB158_168.out (by simp)); have n3_ := Aside0.mk (KeepBut.blk hk (g' := gb163) (o := .cells #[.int .i64 t159, .int .i64 t160, .int .i64 t161, .int .i64 t162] 31 (0, 0)) (by (with_reducible repeat (first | refine blk_drewN ?_ _ | refine blk_drew ?_ | refine blk_alloc ?_ _)); exact BK163.out) NB163_168.out (by simp)); have n4_ := Aside0.mk (hb); have n5_ := Aside0.mk (hi); clear BK146; clear BK147; clear BK158; clear BK163; clear HB; clear HI168; have BK146 := n0_; have BK147 := n1_; have BK158 := n2_; have BK163 := n3_; have HB := n4_; have HI168 := n5_; clear n0_ n1_ n2_ n3_ n4_ n5_; (try clear hb); (try clear hb2); (try clear hk); (try clear hi)))
                          go_ret
                          exact ⟨by first | rfl | (simp [errW_none, errW_some] <;> rfl) | (simp [*, errW_none, errW_some] <;> rfl), by repeat (first | (with_reducible first | exact HB.out | apply below_alloc | apply pw_below_drewN | apply below_drew1 | refine below_set ?_ (IsS36.ge HI168.out) | refine below_set ?_ GE146.out | refine below_set ?_ GE147.out | refine below_set ?_ GE158.out | refine below_set ?_ GE163.out) | exact HB.out)⟩
                      · rw [if_neg c85] at H
                        have c85b0 : decide (0 < t177) = false := decide_eq_false c85
                        clear c85
                        replace H := Option.bind_eq_some_iff.mp H
                        obtain ⟨⟨t185, t186, t187, t188, t189⟩, A980, H⟩ := H
                        replace H : (some t185) = some r := H
                        have A98 := Aside0.mk A980
                        clear A980
                        obtain rfl := Option.some.inj H
                        have hnb99 := NB163_146.out
                        have hnc99 := NB146_163.out
                        have hnb100 := NB163_147.out
                        have hnc100 := NB147_163.out
                        have hnb101 := NB163_158.out
                        have hnc101 := NB158_163.out
                        have hnb102 := NB163_168.out
                        have hnc102 := NB168_163.out
                        have hcz103_0 : wc.cell? ⟨gb163, 0, none⟩ = some (.int .i64 t159) := (blk_cell BK163.out 0).trans rfl
                        have hcz103_1 : wc.cell? ⟨gb163, 1, none⟩ = some (.int .i64 t160) := (blk_cell BK163.out 1).trans rfl
                        have hcz103_2 : wc.cell? ⟨gb163, 2, none⟩ = some (.int .i64 t161) := (blk_cell BK163.out 2).trans rfl
                        have hcz103_3 : wc.cell? ⟨gb163, 3, none⟩ = some (.int .i64 t162) := (blk_cell BK163.out 3).trans rfl
                        have hfz103_0 := blk_frozen BK163.out 0
                        have hfz103_1 := blk_frozen BK163.out 1
                        have hfz103_2 := blk_frozen BK163.out 2
                        have hfz103_3 := blk_frozen BK163.out 3
                        go_wp2_with (first | ((with_reducible refine gate_callee (f := 21) rfl ?_); refine goesL_ (some 100) rfl rfl Try.func21 (by kernel_rfl) rfl #[.pointer (some ⟨gb168, 0, none⟩), .agg #[.int .i64 t159, .int .i64 t160, .int .i64 t161, .int .i64 t162], .int .i64 (wrap64 (x9_1 + t177)), .int .i64 (wrap64 ((Int.tmod (Go.bits .and .i64 a1_1 31) t151) + 1))] rfl (by (try simp only [List.map_toArray, List.map_cons, List.map_nil]); first | done | rfl | (simp only [List.length_drop, List.length_take]; rfl)) ?_; (with_reducible refine (cell_Cell_Take.calls kj52 gb168 x169000_1 x169001_1 x169002_1 x169003_1 t159 t160 t161 t162 (wrap64 (x9_1 + t177)) (wrap64 ((Int.tmod (Go.bits .and .i64 a1_1 31) t151) + 1)) t185 t186 t187 t188 t189 w _ ?side1 ?side2 A98.out).mono ?_); (case side1 => repeat (first | (with_reducible first | exact HI168.out | apply IsS36.alloc | apply IsS36.drewN | apply IsS36.drew | apply IsS36.set_0 | apply IsS36.set_1 | apply IsS36.set_2 | apply IsS36.set_3 | refine IsS36.far ?_ NB168_146.out _ | refine IsS36.far ?_ NB168_147.out _ | refine IsS36.far ?_ NB168_158.out _ | refine IsS36.far ?_ NB168_163.out _) | exact HI168.out)); (case side2 => repeat (first | (with_reducible first | exact HB.out | apply below_alloc | apply pw_below_drewN | apply below_drew1 | refine below_set ?_ (IsS36.ge HI168.out) | refine below_set ?_ GE146.out | refine below_set ?_ GE147.out | refine below_set ?_ GE158.out | refine below_set ?_ GE163.out) | exact HB.out)); rintro e w104 ⟨rfl, hi, hb, hk⟩; refine ⟨_, rfl, ?_⟩; have n0_ := Aside0.mk (KeepBut.blk hk (g' := gb146) (o := .cells #[.int .i64 a0_0, .int .i64 a0_1, .int .i64 a0_2] 23 (0, 0)) (by (with_reducible repeat (first | refine blk_drewN ?_ _ | refine blk_drew ?_ | refine blk_alloc ?_ _)); exact BK146.out) NB146_168.out (by simp)); have n1_ := Aside0.mk (KeepBut.blk hk (g' := gb147) (o := .cells #[.int .i64 a1_0, .int .i64 a1_1] 24 (0, 0)) (by (with_reducible repeat (first | refine blk_drewN ?_ _ | refine blk_drew ?_ | refine blk_alloc ?_ _)); exact BK147.out) NB147_168.out (by simp)); have n2_ := Aside0.mk (KeepBut.blk hk (g' := gb158) (o := .cells #[.int .i64 t149, .int .i64 t150, .int .i64 t151, .int .i64 t152, .int .i64 t153, .int .i64 t154, .int .i64 t155, .int .i64 t156, .bool t157] 28 (0, 0)) (by (with_reducible repeat (first | refine blk_drewN ?_ _ | refine blk_drew ?_ | refine blk_alloc ?_ _)); exact BK158.out) NB158_168.out (by simp)); have n3_ := Aside0.mk (KeepBut.blk hk (g' := gb163) (o := .cells #[.int .i64 t159, .int .i64 t160, .int .i64 t161, .int .i64 t162] 31 (0, 0)) (by (with_reducible repeat (first | refine blk_drewN ?_ _ | refine blk_drew ?_ | refine blk_alloc ?_ _)); exact BK163.out) NB163_168.out (by simp)); have n4_ := Aside0.mk (hb); have n5_ := Aside0.mk (hi); clear BK146; clear BK147; clear BK158; clear BK163; clear HB; clear HI168; have BK146 := n0_; have BK147 := n1_; have BK158 := n2_; have BK163 := n3_; have HB := n4_; have HI168 := n5_; clear n0_ n1_ n2_ n3_ n4_ n5_; (try clear hb); (try clear hb2); (try clear hk); (try clear hi)))
                        go_ret
                        exact ⟨by first | rfl | (simp [errW_none, errW_some] <;> rfl) | (simp [*, errW_none, errW_some] <;> rfl), by repeat (first | (with_reducible first | exact HB.out | apply below_alloc | apply pw_below_drewN | apply below_drew1 | refine below_set ?_ (IsS36.ge HI168.out) | refine below_set ?_ GE146.out | refine below_set ?_ GE147.out | refine below_set ?_ GE158.out | refine below_set ?_ GE163.out) | exact HB.out)⟩
  · replace c5 := Bool.eq_false_iff.mpr c5
    subst c5
    have H1 : (some false) = some r := by rw [if_neg (show ¬ (false = true) by decide)] at H; exact H
    clear H
    have H := H1
    clear H1
    exact absurd (Option.some.inj H) (by rw [hr_.out]; decide)

/-- THE ONE PURE STATEMENT of weighbridgelaw09_CellWaits. -/
def weighbridgelaw09_CellWaits.Pure : Prop := ∀ (a0_0 : Int) (a0_1 : Int) (a0_2 : Int) (a1_0 : Int) (a1_1 : Int) (l2 : List (S40)), (Lit.int .i64 a0_0).wf = true → (Lit.int .i64 a0_1).wf = true → (Lit.int .i64 a0_2).wf = true → (Lit.int .i64 a1_0).wf = true → (Lit.int .i64 a1_1).wf = true → l2.length ≤ maxLen → (∀ x ∈ l2, ((Lit.int .i64 x.f0).wf = true ∧ (Lit.int .i64 x.f1).wf = true)) → ∃ k, weighbridgelaw09_CellWaits.f k a0_0 a0_1 a0_2 a1_0 a1_1 l2 = some true
theorem weighbridgelaw09_CellWaits.walk (P : weighbridgelaw09_CellWaits.Pure) (a0_0 : Int) (a0_1 : Int) (a0_2 : Int) (a1_0 : Int) (a1_1 : Int) (A2 : Option Addr) (c2 : Nat) (l2 : List (S40)) (w : World) (hr2 : Kd.C k40 w A2 l2.length l2) (hc2 : l2.length ≤ c2) (g0 : (Lit.int .i64 a0_0).wf = true) (g1 : (Lit.int .i64 a0_1).wf = true) (g2 : (Lit.int .i64 a0_2).wf = true) (g3 : (Lit.int .i64 a1_0).wf = true) (g4 : (Lit.int .i64 a1_1).wf = true) (g5 : l2.length ≤ maxLen) (g6 : (∀ x ∈ l2, ((Lit.int .i64 x.f0).wf = true ∧ (Lit.int .i64 x.f1).wf = true))) :
    Calls Try.prog 5 #[.agg #[.int .i64 a0_0, .int .i64 a0_1, .int .i64 a0_2], .agg #[.int .i64 a1_0, .int .i64 a1_1], .slice A2 l2.length c2] w fun e w' => e = .returned (.bool true) ∧ Below w.heap.size w w' := by
  obtain ⟨k, h⟩ := P a0_0 a0_1 a0_2 a1_0 a1_1 l2 g0 g1 g2 g3 g4 g5 g6
  refine (weighbridgelaw09_CellWaits.calls k a0_0 a0_1 a0_2 a1_0 a1_1 A2 c2 l2 true w hr2 hc2 (Aside0.mk rfl) h).mono ?_
  rintro e w' ⟨rfl, hd⟩
  exact ⟨rfl, hd⟩

end Go.Proofs.Ytdnimnlnicnjnaa.QCellWaits
