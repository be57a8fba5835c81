-- Laid by a program of this session (wip/myprint.py, over the kit's print.py): a walk of the code and what it computes.
import Derived.Test.YtdnimnlnicnjnaaQCellShiftx0
import Derived.Test.YtdnimnlnicnjnaaQCellShiftx1
import Derived.Test.YtdnimnlnicnjnaaQCellShiftx2
import Derived.Test.YtdnimnlnicnjnaaQCellShiftx3
import Derived.Test.YtdnimnlnicnjnaaQCellShiftx4
namespace Go.Proofs.Ytdnimnlnicnjnaa.QCellShift
open Go.RowKit Go.Proofs.YtdnimnlnicnjnaaW.PrintWords Go.Proofs.YtdnimnlnicnjnaaW.PrintLast Go.Proofs.YtdnimnlnicnjnaaW.PrintMore
attribute [local go_sem] max2_int min2_int max_two min_two max_three min_three max_four min_four   -- for this text's walks alone
set_option linter.unusedVariables false
set_option linter.unusedSimpArgs false

/-! ### weighbridgelaw09_CellShift: function 10 -/
def weighbridgelaw09_CellShift.l0 : Nat → Int → Int → List (S40) → Int → Int → Int → Int → Int → Int → Int → Int → Int → Int → Bool → Int → Int → Int → Int → Int → Int → Int → Int → Int → Int → Int → Int → Option (Bool)
  | 0, _, _, _, _, _, _, _, _, _, _, _, _, _, _, _, _, _, _, _, _, _, _, _, _, _, _ => none
  | k + 1, x1, x11, x30, x31, x32, x164000, x164001, x164002, x164003, x164004, x164005, x164006, x164007, x164008, x169000, x169001, x169002, x169003, x178000, x178001, x178002, x178003, x179000, x179001, x179002, x179003 => if x32 < x31 then (if 0 ≤ x32 then (if x32 < (x30.length : Int) then ((weighbridgelaw09_gap.f ((rd_T40 x30 x32).f0)).bind fun t181 => (if x164002 = 0 then (none) else ((cell_Cell_Room.f k x178000 x178001 x178002 x178003 x169000 x169001 x169002 x169003 (wrap64 (x11 + t181))).bind fun t182 => ((cell_Cell_Room.f k x179000 x179001 x179002 x179003 x169000 x169001 x169002 x169003 (wrap64 ((wrap64 (x11 + t181)) + x1))).bind fun t183 => (if t182 = t183 then ((cell_Cell_Wait.f x178000 x178001 x178002 x178003 x169000 x169001 x169002 x169003 (wrap64 (x11 + t181)) (wrap64 ((Int.tmod (Go.bits .and .i64 ((rd_T40 x30 x32).f1) 31) x164002) + 1))).bind fun t184 => ((cell_Cell_Wait.f x179000 x179001 x179002 x179003 x169000 x169001 x169002 x169003 (wrap64 ((wrap64 (x11 + t181)) + x1)) (wrap64 ((Int.tmod (Go.bits .and .i64 ((rd_T40 x30 x32).f1) 31) x164002) + 1))).bind fun t185 => (if t184 = t185 then ((cell_Cell_Take.f k x178000 x178001 x178002 x178003 x169000 x169001 x169002 x169003 (wrap64 (x11 + t181)) (wrap64 ((Int.tmod (Go.bits .and .i64 ((rd_T40 x30 x32).f1) 31) x164002) + 1))).bind fun bt186 => ((cell_Cell_Take.f k x179000 x179001 x179002 x179003 x169000 x169001 x169002 x169003 (wrap64 ((wrap64 (x11 + t181)) + x1)) (wrap64 ((Int.tmod (Go.bits .and .i64 ((rd_T40 x30 x32).f1) 31) x164002) + 1))).bind fun bt191 => (if (bt186.1 == bt191.1) = true then ((cell_Cell_Bound.f bt186.2.1 bt186.2.2.1 bt186.2.2.2.1 bt186.2.2.2.2 x169000 x169001 x169002 x169003 (wrap64 (x11 + t181))).bind fun t196 => ((cell_Cell_Bound.f bt191.2.1 bt191.2.2.1 bt191.2.2.2.1 bt191.2.2.2.2 x169000 x169001 x169002 x169003 (wrap64 ((wrap64 (x11 + t181)) + x1))).bind fun t197 => (if t196 = t197 then ((cell_Cell_Idle.f bt186.2.1 bt186.2.2.1 bt186.2.2.2.1 bt186.2.2.2.2 x169000 x169001 x169002 x169003 (wrap64 (x11 + t181))).bind fun t198 => ((cell_Cell_Idle.f bt191.2.1 bt191.2.2.1 bt191.2.2.2.1 bt191.2.2.2.2 x169000 x169001 x169002 x169003 (wrap64 ((wrap64 (x11 + t181)) + x1))).bind fun t199 => (if (t198 == t199) = true then (weighbridgelaw09_CellShift.l0 k x1 (wrap64 (x11 + t181)) x30 x31 (wrap64 (x32 + 1)) x164000 x164001 x164002 x164003 x164004 x164005 x164006 x164007 x164008 x169000 x169001 x169002 x169003 bt186.2.1 bt186.2.2.1 bt186.2.2.2.1 bt186.2.2.2.2 bt191.2.1 bt191.2.2.1 bt191.2.2.2.1 bt191.2.2.2.2) else (some false)))) else (some false)))) else (some false)))) else (some false)))) else (some false)))))) else (none)) else (none)) else (if x178003 = x179003 then (some ((wrap64 (x178000 + x1)) == x179000)) else (some false))
def weighbridgelaw09_CellShift.f (k : Nat) (a0_0 : Int) (a0_1 : Int) (a0_2 : Int) (a1 : Int) (l2 : List (S40)) : Option (Bool) := (weighbridgelaw09_fit.f k).bind fun t153 => (if t153 = true then (if (l2.length : Int) > 100 then (some true) else ((weighbridgelaw09_Plan_Rule.f a0_0 a0_1 a0_2).bind fun bt154 => ((cell_Of.f k bt154.1 bt154.2.1 bt154.2.2.1 bt154.2.2.2.1 bt154.2.2.2.2.1 bt154.2.2.2.2.2.1 bt154.2.2.2.2.2.2.1 bt154.2.2.2.2.2.2.2.1 bt154.2.2.2.2.2.2.2.2).bind fun bt164 => ((cell_New.f 3 1).bind fun bt169 => ((cell_New.f (wrap64 (3 + (Go.bits .and .i64 a1 1152921504606846975))) 1).bind fun bt173 => (weighbridgelaw09_CellShift.l0 k (Go.bits .and .i64 a1 1152921504606846975) 3 l2 (l2.length : Int) 0 bt154.1 bt154.2.1 bt154.2.2.1 bt154.2.2.2.1 bt154.2.2.2.2.1 bt154.2.2.2.2.2.1 bt154.2.2.2.2.2.2.1 bt154.2.2.2.2.2.2.2.1 bt154.2.2.2.2.2.2.2.2 bt164.1 bt164.2.1 bt164.2.2.1 bt164.2.2.2 bt169.1 bt169.2.1 bt169.2.2.1 bt169.2.2.2 bt173.1 bt173.2.1 bt173.2.2.1 bt173.2.2.2)))))) else (some false))
theorem weighbridgelaw09_CellShift.mono_l : ∀ k, (∀ y0 y1 y2 y3 y4 y5 y6 y7 y8 y9 y10 y11 y12 y13 y14 y15 y16 y17 y18 y19 y20 y21 y22 y23 y24 y25, LeO (weighbridgelaw09_CellShift.l0 k y0 y1 y2 y3 y4 y5 y6 y7 y8 y9 y10 y11 y12 y13 y14 y15 y16 y17 y18 y19 y20 y21 y22 y23 y24 y25) (weighbridgelaw09_CellShift.l0 (k + 1) y0 y1 y2 y3 y4 y5 y6 y7 y8 y9 y10 y11 y12 y13 y14 y15 y16 y17 y18 y19 y20 y21 y22 y23 y24 y25))
  | 0 => fun _ _ _ _ _ _ _ _ _ _ _ _ _ _ _ _ _ _ _ _ _ _ _ _ _ _ r h => by simp [weighbridgelaw09_CellShift.l0] at h
  | k + 1 => by
    have ih0 := weighbridgelaw09_CellShift.mono_l k
    · intro y0 y1 y2 y3 y4 y5 y6 y7 y8 y9 y10 y11 y12 y13 y14 y15 y16 y17 y18 y19 y20 y21 y22 y23 y24 y25
      unfold weighbridgelaw09_CellShift.l0
      repeat' first
      | (with_reducible exact ih0 _ _ _ _ _ _ _ _ _ _ _ _ _ _ _ _ _ _ _ _ _ _ _ _ _ _)
      | (with_reducible exact cell_Cell_Room.mono _ _ _ _ _ _ _ _ _ _)
      | (with_reducible exact cell_Cell_Take.mono _ _ _ _ _ _ _ _ _ _ _)
      | (with_reducible exact cell_Of.mono _ _ _ _ _ _ _ _ _ _)
      | (with_reducible exact weighbridgelaw09_fit.mono _)
      | (with_reducible exact LeO.refl _)
      | (with_reducible exact LeO.none _)
      | (with_reducible refine LeO.ite ?_ ?_)
      | (with_reducible refine LeO.bind ?_ (fun _ => ?_))
      | exact ih0 _ _ _ _ _ _ _ _ _ _ _ _ _ _ _ _ _ _ _ _ _ _ _ _ _ _
      | exact cell_Cell_Room.mono _ _ _ _ _ _ _ _ _ _
      | exact cell_Cell_Take.mono _ _ _ _ _ _ _ _ _ _ _
      | exact cell_Of.mono _ _ _ _ _ _ _ _ _ _
      | exact weighbridgelaw09_fit.mono _
      | exact LeO.none _
      | refine LeO.ite ?_ ?_
      | refine LeO.bind ?_ (fun _ => ?_)
theorem weighbridgelaw09_CellShift.mono : ∀ a0 a1 a2 a3 a4 k, LeO (weighbridgelaw09_CellShift.f k a0 a1 a2 a3 a4) (weighbridgelaw09_CellShift.f (k + 1) a0 a1 a2 a3 a4) := by
  intro a0 a1 a2 a3 a4 k
  have ih0 := weighbridgelaw09_CellShift.mono_l k
  unfold weighbridgelaw09_CellShift.f
  repeat' first
      | (with_reducible exact ih0 _ _ _ _ _ _ _ _ _ _ _ _ _ _ _ _ _ _ _ _ _ _ _ _ _ _)
      | (with_reducible exact cell_Cell_Room.mono _ _ _ _ _ _ _ _ _ _)
      | (with_reducible exact cell_Cell_Take.mono _ _ _ _ _ _ _ _ _ _ _)
      | (with_reducible exact cell_Of.mono _ _ _ _ _ _ _ _ _ _)
      | (with_reducible exact weighbridgelaw09_fit.mono _)
      | (with_reducible exact LeO.refl _)
      | (with_reducible exact LeO.none _)
      | (with_reducible refine LeO.ite ?_ ?_)
      | (with_reducible refine LeO.bind ?_ (fun _ => ?_))
      | exact ih0 _ _ _ _ _ _ _ _ _ _ _ _ _ _ _ _ _ _ _ _ _ _ _ _ _ _
      | exact cell_Cell_Room.mono _ _ _ _ _ _ _ _ _ _
      | exact cell_Cell_Take.mono _ _ _ _ _ _ _ _ _ _ _
      | exact cell_Of.mono _ _ _ _ _ _ _ _ _ _
      | exact weighbridgelaw09_fit.mono _
      | exact LeO.none _
      | refine LeO.ite ?_ ?_
      | refine LeO.bind ?_ (fun _ => ?_)
def weighbridgelaw09_CellShift.T15 : Bool × List (List Nat × List Nat) := (true, [([], []), ([], []), ([], []), ([0, 1, 2], [0, 1, 2]), ([], []), ([], []), ([], []), ([], []), ([6, 7], [6, 7]), ([4, 5, 8, 3], [4, 5, 8]), ([3, 9], [3, 9]), ([10, 9], [10]), ([11], [11]), ([11], [11]), ([11], [11]), ([11], [11]), ([12, 13, 14, 15, 11, 11], [11, 12, 13, 14, 15]), ([11], [11]), ([11], [11]), ([11], [11]), ([11], [11]), ([19, 20, 11], [11, 19, 20]), ([11], [11]), ([17, 18, 21, 22, 16, 11], [11, 17, 18, 21, 22]), ([16, 23, 11], [11, 16, 23]), ([11, 24], [11, 24]), ([25, 23], [25]), ([26], [26]), ([26], [26]), ([26], [26]), ([27, 28, 29, 26, 26], [26, 27, 28, 29]), ([26], [26]), ([26], [26]), ([26], [26]), ([32, 33, 26], [26, 32, 33]), ([26], [26]), ([31, 34, 35, 30, 26], [26, 31, 34, 35]), ([30, 36, 26], [26, 30, 36]), ([26, 37], [26, 37]), ([38, 36], [38]), ([39], [39]), ([39], [39]), ([39], [39]), ([40, 41, 42, 39, 39], [39, 40, 41, 42]), ([39], [39]), ([39], [39]), ([39], [39]), ([39], [39]), ([46, 47, 39], [39, 46, 47]), ([44, 45, 48, 43, 39], [39, 44, 45, 48]), ([43, 49, 39], [39, 43, 49]), ([39, 50], [39, 50]), ([51, 49], [51]), ([52], [52]), ([52], [52]), ([52], [52]), ([53, 54, 55, 52, 52], [52, 53, 54, 55]), ([52], [52]), ([52], [52]), ([52], [52]), ([52], [52]), ([59, 60, 52], [52, 59, 60]), ([57, 58, 61, 56, 52], [52, 57, 58, 61]), ([56, 62, 52], [52, 56, 62]), ([52, 63], [52, 63])])
def weighbridgelaw09_CellShift.B15 : List Nat := [0, 0, 0, 7, 0, 0, 0, 0, 192, 511, 1023, 2047, 4095, 4095, 4095, 4095, 65535, 4095, 4095, 4095, 4095, 1576959, 4095, 8388607, 16777215, 33554431, 67108863, 134217727, 134217727, 134217727, 1073741823, 134217727, 134217727, 134217727, 13019119615, 134217727, 68719476735, 137438953471, 274877906943, 549755813887, 1099511627775, 1099511627775, 1099511627775, 8796093022207, 1099511627775, 1099511627775, 1099511627775, 1099511627775, 212205744160767, 562949953421311, 1125899906842623, 2251799813685247, 4503599627370495, 9007199254740991, 9007199254740991, 9007199254740991, 72057594037927935, 9007199254740991, 9007199254740991, 9007199254740991, 9007199254740991, 1738389456165011455, 4611686018427387903, 9223372036854775807, 18446744073709551615]
theorem weighbridgelaw09_CellShift.tab15 : rtab .any (opsOf Try.f10 15) = weighbridgelaw09_CellShift.T15 := by kernel_rfl
theorem weighbridgelaw09_CellShift.bits15 : waitsOk weighbridgelaw09_CellShift.T15.2 weighbridgelaw09_CellShift.B15 = true := by kernel_rfl
set_option maxHeartbeats 8000000 in
set_option maxRecDepth 100000 in
theorem weighbridgelaw09_CellShift.calls (k : Nat) (a0_0 : Int) (a0_1 : Int) (a0_2 : Int) (a1 : Int) (A2 : Option Addr) (c2 : Nat) (l2 : List (S40)) (r : Bool) (w : World) (hr2 : Kd.C k40 w A2 l2.length l2) (hc2 : l2.length ≤ c2) (hr_ : Aside0 (r = true)) (h : weighbridgelaw09_CellShift.f k a0_0 a0_1 a0_2 a1 l2 = some r) :
    Calls Try.prog 10 #[.agg #[.int .i64 a0_0, .int .i64 a0_1, .int .i64 a0_2], .int .i64 a1, .slice A2 l2.length c2] w fun e w' => e = .returned (.bool r) ∧ Below w.heap.size w w' := by
  have hu23 := Try.underlying23
  have hu28 := Try.underlying28
  have hu31 := Try.underlying31
  have hu36 := Try.underlying36
  have hu40 := Try.underlying40
  have HR2 := Aside0.mk hr2
  have HC2 := Aside0.mk hc2
  clear hr2 hc2
  have HB := Aside0.mk (Below.refl w.heap.size w)
  have H : ((weighbridgelaw09_fit.f k).bind fun t153 => (if t153 = true then (if (l2.length : Int) > 100 then (some true) else ((weighbridgelaw09_Plan_Rule.f a0_0 a0_1 a0_2).bind fun bt154 => ((cell_Of.f k bt154.1 bt154.2.1 bt154.2.2.1 bt154.2.2.2.1 bt154.2.2.2.2.1 bt154.2.2.2.2.2.1 bt154.2.2.2.2.2.2.1 bt154.2.2.2.2.2.2.2.1 bt154.2.2.2.2.2.2.2.2).bind fun bt164 => ((cell_New.f 3 1).bind fun bt169 => ((cell_New.f (wrap64 (3 + (Go.bits .and .i64 a1 1152921504606846975))) 1).bind fun bt173 => (weighbridgelaw09_CellShift.l0 k (Go.bits .and .i64 a1 1152921504606846975) 3 l2 (l2.length : Int) 0 bt154.1 bt154.2.1 bt154.2.2.1 bt154.2.2.2.1 bt154.2.2.2.2.1 bt154.2.2.2.2.2.1 bt154.2.2.2.2.2.2.1 bt154.2.2.2.2.2.2.2.1 bt154.2.2.2.2.2.2.2.2 bt164.1 bt164.2.1 bt164.2.2.1 bt164.2.2.2 bt169.1 bt169.2.1 bt169.2.2.1 bt169.2.2.2 bt173.1 bt173.2.1 bt173.2.2.1 bt173.2.2.2)))))) else (some false))) = some r := h
  clear h
  replace H := Option.bind_eq_some_iff.mp H
  obtain ⟨t153, A40, H⟩ := H
  replace H : (if t153 = true then (if (l2.length : Int) > 100 then (some true) else ((weighbridgelaw09_Plan_Rule.f a0_0 a0_1 a0_2).bind fun bt154 => ((cell_Of.f k bt154.1 bt154.2.1 bt154.2.2.1 bt154.2.2.2.1 bt154.2.2.2.2.1 bt154.2.2.2.2.2.1 bt154.2.2.2.2.2.2.1 bt154.2.2.2.2.2.2.2.1 bt154.2.2.2.2.2.2.2.2).bind fun bt164 => ((cell_New.f 3 1).bind fun bt169 => ((cell_New.f (wrap64 (3 + (Go.bits .and .i64 a1 1152921504606846975))) 1).bind fun bt173 => (weighbridgelaw09_CellShift.l0 k (Go.bits .and .i64 a1 1152921504606846975) 3 l2 (l2.length : Int) 0 bt154.1 bt154.2.1 bt154.2.2.1 bt154.2.2.2.1 bt154.2.2.2.2.1 bt154.2.2.2.2.2.1 bt154.2.2.2.2.2.2.1 bt154.2.2.2.2.2.2.2.1 bt154.2.2.2.2.2.2.2.2 bt164.1 bt164.2.1 bt164.2.2.1 bt164.2.2.2 bt169.1 bt169.2.1 bt169.2.2.1 bt169.2.2.2 bt173.1 bt173.2.1 bt173.2.2.1 bt173.2.2.2)))))) else (some false)) = some r := H
  have A4 := Aside0.mk A40
  clear A40
  by_cases c5 : t153 = true
  · subst c5
    have H1 : (if (l2.length : Int) > 100 then (some true) else ((weighbridgelaw09_Plan_Rule.f a0_0 a0_1 a0_2).bind fun bt154 => ((cell_Of.f k bt154.1 bt154.2.1 bt154.2.2.1 bt154.2.2.2.1 bt154.2.2.2.2.1 bt154.2.2.2.2.2.1 bt154.2.2.2.2.2.2.1 bt154.2.2.2.2.2.2.2.1 bt154.2.2.2.2.2.2.2.2).bind fun bt164 => ((cell_New.f 3 1).bind fun bt169 => ((cell_New.f (wrap64 (3 + (Go.bits .and .i64 a1 1152921504606846975))) 1).bind fun bt173 => (weighbridgelaw09_CellShift.l0 k (Go.bits .and .i64 a1 1152921504606846975) 3 l2 (l2.length : Int) 0 bt154.1 bt154.2.1 bt154.2.2.1 bt154.2.2.2.1 bt154.2.2.2.2.1 bt154.2.2.2.2.2.1 bt154.2.2.2.2.2.2.1 bt154.2.2.2.2.2.2.2.1 bt154.2.2.2.2.2.2.2.2 bt164.1 bt164.2.1 bt164.2.2.1 bt164.2.2.2 bt169.1 bt169.2.1 bt169.2.2.1 bt169.2.2.2 bt173.1 bt173.2.1 bt173.2.2.1 bt173.2.2.2)))))) = some r := by rw [if_pos rfl] at H; exact H
    clear H
    have H := H1
    clear H1
    by_cases c6 : (l2.length : Int) > 100
    · rw [if_pos c6] at H
      have c6b0 : decide (100 < (l2.length : Int)) = true := decide_eq_true c6
      have c6b1 : decide (100 < l2.length) = true := decide_eq_true (by omega)
      clear c6
      obtain rfl := Option.some.inj H
      go_enter Try.func10, Try.ntmps10
      go_wp2_with (first | ((with_reducible refine gate_dst (N := 3) rfl ?_); refine box_event ?hg (N := 3) ?hd (cs := #[.int .i64 a0_0, .int .i64 a0_1, .int .i64 a0_2]) (t := 23) ?hr ?_; (case hd => rfl); (case hg => rfl); (case hr => first | (go_simp; done) | (go_simp; rfl)); intro gb152 hg w7 hbox hb; have n0_ := Aside0.mk (below_step (by repeat (first | (with_reducible first | exact HB.out | apply below_alloc | apply pw_below_drewN | apply below_drew1) | exact HB.out)) hb); have n1_ := Aside0.mk (hbox); have n2_ := Aside0.mk ((by rw [hg]; exact (below_size (by repeat (first | (with_reducible first | exact HB.out | apply below_alloc | apply pw_below_drewN | apply below_drew1) | exact HB.out))) : w.heap.size ≤ gb152)); have n3_ := Aside0.mk ((by rw [hg]; exact (below_size (by repeat (first | (with_reducible first | exact HB.out | apply below_alloc | apply pw_below_drewN | apply below_drew1) | exact HB.out))) : w.heap.size ≤ gb152)); clear HB; have HB := n0_; have BK152 := n1_; have GW152 := n2_; have GE152 := n3_; clear n0_ n1_ n2_ n3_; clear hb hbox hg) | ((with_reducible refine gate_callee (f := 11) rfl ?_); refine goesL_ (some 15) rfl rfl Try.func11 (by kernel_rfl) rfl #[] rfl (by (try simp only [List.map_toArray, List.map_cons, List.map_nil]); first | done | rfl | (simp only [List.length_drop, List.length_take]; rfl)) ?_; (with_reducible refine (weighbridgelaw09_fit.calls k  true _ A4.out).mono ?_); rintro e w8 ⟨rfl, hb⟩; refine ⟨_, rfl, ?_⟩; have n0_ := Aside0.mk (blk_below (g := gb152) (o := .cells #[.int .i64 a0_0, .int .i64 a0_1, .int .i64 a0_2] 23 (0, 0)) (by (with_reducible repeat (first | refine blk_drewN ?_ _ | refine blk_drew ?_ | refine blk_alloc ?_ _)); exact BK152.out) hb); have n1_ := Aside0.mk (below_step (by repeat (first | (with_reducible first | exact HB.out | apply below_alloc | apply pw_below_drewN | apply below_drew1 | refine below_set ?_ GE152.out) | exact HB.out)) hb); clear BK152; clear HB; have BK152 := n0_; have HB := n1_; clear n0_ n1_; (try clear hb); (try clear hb2); (try clear hk); (try clear hi)))
      go_ret
      exact ⟨by first | rfl | (simp [errW_none, errW_some] <;> rfl) | (simp [*, errW_none, errW_some] <;> rfl), by repeat (first | (with_reducible first | exact HB.out | apply below_alloc | apply pw_below_drewN | apply below_drew1 | refine below_set ?_ GE152.out) | exact HB.out)⟩
    · rw [if_neg c6] at H
      have c6b0 : decide (100 < (l2.length : Int)) = false := decide_eq_false c6
      have c6b1 : decide (100 < l2.length) = false := decide_eq_false (by omega)
      clear c6
      replace H := Option.bind_eq_some_iff.mp H
      obtain ⟨⟨t154, t155, t156, t157, t158, t159, t160, t161, t162⟩, A90, H⟩ := H
      replace H : ((cell_Of.f k t154 t155 t156 t157 t158 t159 t160 t161 t162).bind fun bt164 => ((cell_New.f 3 1).bind fun bt169 => ((cell_New.f (wrap64 (3 + (Go.bits .and .i64 a1 1152921504606846975))) 1).bind fun bt173 => (weighbridgelaw09_CellShift.l0 k (Go.bits .and .i64 a1 1152921504606846975) 3 l2 (l2.length : Int) 0 t154 t155 t156 t157 t158 t159 t160 t161 t162 bt164.1 bt164.2.1 bt164.2.2.1 bt164.2.2.2 bt169.1 bt169.2.1 bt169.2.2.1 bt169.2.2.2 bt173.1 bt173.2.1 bt173.2.2.1 bt173.2.2.2)))) = some r := H
      have A9 := Aside0.mk A90
      clear A90
      replace H := Option.bind_eq_some_iff.mp H
      obtain ⟨⟨t164, t165, t166, t167⟩, A100, H⟩ := H
      replace H : ((cell_New.f 3 1).bind fun bt169 => ((cell_New.f (wrap64 (3 + (Go.bits .and .i64 a1 1152921504606846975))) 1).bind fun bt173 => (weighbridgelaw09_CellShift.l0 k (Go.bits .and .i64 a1 1152921504606846975) 3 l2 (l2.length : Int) 0 t154 t155 t156 t157 t158 t159 t160 t161 t162 t164 t165 t166 t167 bt169.1 bt169.2.1 bt169.2.2.1 bt169.2.2.2 bt173.1 bt173.2.1 bt173.2.2.1 bt173.2.2.2))) = some r := H
      have A10 := Aside0.mk A100
      clear A100
      replace H := Option.bind_eq_some_iff.mp H
      obtain ⟨⟨t169, t170, t171, t172⟩, A110, H⟩ := H
      replace H : ((cell_New.f (wrap64 (3 + (Go.bits .and .i64 a1 1152921504606846975))) 1).bind fun bt173 => (weighbridgelaw09_CellShift.l0 k (Go.bits .and .i64 a1 1152921504606846975) 3 l2 (l2.length : Int) 0 t154 t155 t156 t157 t158 t159 t160 t161 t162 t164 t165 t166 t167 t169 t170 t171 t172 bt173.1 bt173.2.1 bt173.2.2.1 bt173.2.2.2)) = some r := H
      have A11 := Aside0.mk A110
      clear A110
      replace H := Option.bind_eq_some_iff.mp H
      obtain ⟨⟨t173, t174, t175, t176⟩, A120, H⟩ := H
      replace H : (weighbridgelaw09_CellShift.l0 k (Go.bits .and .i64 a1 1152921504606846975) 3 l2 (l2.length : Int) 0 t154 t155 t156 t157 t158 t159 t160 t161 t162 t164 t165 t166 t167 t169 t170 t171 t172 t173 t174 t175 t176) = some r := H
      have A12 := Aside0.mk A120
      clear A120
      have H' := Aside0.mk H
      clear H
      go_enter Try.func10, Try.ntmps10
      go_wp2_with (first | ((with_reducible refine gate_dst (N := 3) rfl ?_); refine box_event ?hg (N := 3) ?hd (cs := #[.int .i64 a0_0, .int .i64 a0_1, .int .i64 a0_2]) (t := 23) ?hr ?_; (case hd => rfl); (case hg => rfl); (case hr => first | (go_simp; done) | (go_simp; rfl)); intro gb152 hg w13 hbox hb; have n0_ := Aside0.mk (below_step (by repeat (first | (with_reducible first | exact HB.out | apply below_alloc | apply pw_below_drewN | apply below_drew1) | exact HB.out)) hb); have n1_ := Aside0.mk (hbox); have n2_ := Aside0.mk ((by rw [hg]; exact (below_size (by repeat (first | (with_reducible first | exact HB.out | apply below_alloc | apply pw_below_drewN | apply below_drew1) | exact HB.out))) : w.heap.size ≤ gb152)); have n3_ := Aside0.mk ((by rw [hg]; exact (below_size (by repeat (first | (with_reducible first | exact HB.out | apply below_alloc | apply pw_below_drewN | apply below_drew1) | exact HB.out))) : w.heap.size ≤ gb152)); clear HB; have HB := n0_; have BK152 := n1_; have GW152 := n2_; have GE152 := n3_; clear n0_ n1_ n2_ n3_; clear hb hbox hg) | ((with_reducible refine gate_callee (f := 11) rfl ?_); refine goesL_ (some 15) rfl rfl Try.func11 (by kernel_rfl) rfl #[] rfl (by (try simp only [List.map_toArray, List.map_cons, List.map_nil]); first | done | rfl | (simp only [List.length_drop, List.length_take]; rfl)) ?_; (with_reducible refine (weighbridgelaw09_fit.calls k  true _ A4.out).mono ?_); rintro e w14 ⟨rfl, hb⟩; refine ⟨_, rfl, ?_⟩; have n0_ := Aside0.mk (blk_below (g := gb152) (o := .cells #[.int .i64 a0_0, .int .i64 a0_1, .int .i64 a0_2] 23 (0, 0)) (by (with_reducible repeat (first | refine blk_drewN ?_ _ | refine blk_drew ?_ | refine blk_alloc ?_ _)); exact BK152.out) hb); have n1_ := Aside0.mk (below_step (by repeat (first | (with_reducible first | exact HB.out | apply below_alloc | apply pw_below_drewN | apply below_drew1 | refine below_set ?_ GE152.out) | exact HB.out)) hb); clear BK152; clear HB; have BK152 := n0_; have HB := n1_; clear n0_ n1_; (try clear hb); (try clear hb2); (try clear hk); (try clear hi); have hcz15_0 : w14.cell? ⟨gb152, 0, none⟩ = some (.int .i64 a0_0) := (blk_cell BK152.out 0).trans rfl; have hcz15_1 : w14.cell? ⟨gb152, 1, none⟩ = some (.int .i64 a0_1) := (blk_cell BK152.out 1).trans rfl; have hcz15_2 : w14.cell? ⟨gb152, 2, none⟩ = some (.int .i64 a0_2) := (blk_cell BK152.out 2).trans rfl; have hfz15_0 := blk_frozen BK152.out 0; have hfz15_1 := blk_frozen BK152.out 1; have hfz15_2 := blk_frozen BK152.out 2) | ((with_reducible refine gate_callee (f := 12) rfl ?_); refine goesL_ (some 21) rfl rfl Try.func12 (by kernel_rfl) rfl #[.agg #[.int .i64 a0_0, .int .i64 a0_1, .int .i64 a0_2]] rfl (by (try simp only [List.map_toArray, List.map_cons, List.map_nil]); first | done | rfl | (simp only [List.length_drop, List.length_take]; rfl)) ?_; (with_reducible refine (weighbridgelaw09_Plan_Rule.calls a0_0 a0_1 a0_2 t154 t155 t156 t157 t158 t159 t160 t161 t162 _ A9.out).mono ?_); rintro e w16 ⟨rfl, hb⟩; refine ⟨_, rfl, ?_⟩; have n0_ := Aside0.mk (blk_below (g := gb152) (o := .cells #[.int .i64 a0_0, .int .i64 a0_1, .int .i64 a0_2] 23 (0, 0)) (by (with_reducible repeat (first | refine blk_drewN ?_ _ | refine blk_drew ?_ | refine blk_alloc ?_ _)); exact BK152.out) hb); have n1_ := Aside0.mk (below_step (by repeat (first | (with_reducible first | exact HB.out | apply below_alloc | apply pw_below_drewN | apply below_drew1 | refine below_set ?_ GE152.out) | exact HB.out)) hb); clear BK152; clear HB; have BK152 := n0_; have HB := n1_; clear n0_ n1_; (try clear hb); (try clear hb2); (try clear hk); (try clear hi)) | ((with_reducible refine gate_dst (N := 7) rfl ?_); refine box_event ?hg (N := 7) ?hd (cs := #[.int .i64 0, .int .i64 0, .int .i64 0, .int .i64 0, .int .i64 0, .int .i64 0, .int .i64 0, .int .i64 0, .bool false]) (t := 28) ?hr ?_; (case hd => rfl); (case hg => rfl); (case hr => first | (go_simp; done) | (go_simp; rfl)); intro gb163 hg w17 hbox hb; have n0_ := Aside0.mk (blk_below (g := gb152) (o := .cells #[.int .i64 a0_0, .int .i64 a0_1, .int .i64 a0_2] 23 (0, 0)) (by (with_reducible repeat (first | refine blk_drewN ?_ _ | refine blk_drew ?_ | refine blk_alloc ?_ _)); exact BK152.out) hb); have n1_ := Aside0.mk (below_step (by repeat (first | (with_reducible first | exact HB.out | apply below_alloc | apply pw_below_drewN | apply below_drew1 | refine below_set ?_ GE152.out) | exact HB.out)) hb); have n2_ := Aside0.mk (hbox); have n3_ := Aside0.mk ((by rw [hg]; exact (below_size (by repeat (first | (with_reducible first | exact HB.out | apply below_alloc | apply pw_below_drewN | apply below_drew1 | refine below_set ?_ GE152.out) | exact HB.out))) : w.heap.size ≤ gb163)); have n4_ := Aside0.mk ((by rw [hg]; exact (below_size (by repeat (first | (with_reducible first | exact HB.out | apply below_alloc | apply pw_below_drewN | apply below_drew1 | refine below_set ?_ GE152.out) | exact HB.out))) : w.heap.size ≤ gb163)); have n5_ := Aside0.mk ((by rw [hg]; exact Nat.ne_of_lt (blk_lt (g := gb152) (o := .cells #[.int .i64 a0_0, .int .i64 a0_1, .int .i64 a0_2] 23 (0, 0)) (by (with_reducible repeat (first | refine blk_drewN ?_ _ | refine blk_drew ?_ | refine blk_alloc ?_ _)); exact BK152.out)) : gb152 ≠ gb163)); have n6_ := Aside0.mk ((by rw [hg]; exact Nat.ne_of_gt (blk_lt (g := gb152) (o := .cells #[.int .i64 a0_0, .int .i64 a0_1, .int .i64 a0_2] 23 (0, 0)) (by (with_reducible repeat (first | refine blk_drewN ?_ _ | refine blk_drew ?_ | refine blk_alloc ?_ _)); exact BK152.out)) : gb163 ≠ gb152)); clear BK152; clear HB; have BK152 := n0_; have HB := n1_; have BK163 := n2_; have GW163 := n3_; have GE163 := n4_; have NB152_163 := n5_; have NB163_152 := n6_; clear n0_ n1_ n2_ n3_ n4_ n5_ n6_; clear hb hbox hg; have hnb18 := NB163_152.out; have hnc18 := NB152_163.out; have hcz19_0 : w17.cell? ⟨gb163, 0, none⟩ = some (.int .i64 0) := (blk_cell BK163.out 0).trans rfl; have hcz19_1 : w17.cell? ⟨gb163, 1, none⟩ = some (.int .i64 0) := (blk_cell BK163.out 1).trans rfl; have hcz19_2 : w17.cell? ⟨gb163, 2, none⟩ = some (.int .i64 0) := (blk_cell BK163.out 2).trans rfl; have hcz19_3 : w17.cell? ⟨gb163, 3, none⟩ = some (.int .i64 0) := (blk_cell BK163.out 3).trans rfl; have hcz19_4 : w17.cell? ⟨gb163, 4, none⟩ = some (.int .i64 0) := (blk_cell BK163.out 4).trans rfl; have hcz19_5 : w17.cell? ⟨gb163, 5, none⟩ = some (.int .i64 0) := (blk_cell BK163.out 5).trans rfl; have hcz19_6 : w17.cell? ⟨gb163, 6, none⟩ = some (.int .i64 0) := (blk_cell BK163.out 6).trans rfl; have hcz19_7 : w17.cell? ⟨gb163, 7, none⟩ = some (.int .i64 0) := (blk_cell BK163.out 7).trans rfl; have hcz19_8 : w17.cell? ⟨gb163, 8, none⟩ = some (.bool false) := (blk_cell BK163.out 8).trans rfl; have hfz19_0 := blk_frozen BK163.out 0; have hfz19_1 := blk_frozen BK163.out 1; have hfz19_2 := blk_frozen BK163.out 2; have hfz19_3 := blk_frozen BK163.out 3; have hfz19_4 := blk_frozen BK163.out 4; have hfz19_5 := blk_frozen BK163.out 5; have hfz19_6 := blk_frozen BK163.out 6; have hfz19_7 := blk_frozen BK163.out 7; have hfz19_8 := blk_frozen BK163.out 8) | ((with_reducible refine gate_callee (f := 13) rfl ?_); refine goesL_ (some 23) rfl rfl Try.func13 (by kernel_rfl) rfl #[.agg #[.int .i64 t154, .int .i64 t155, .int .i64 t156, .int .i64 t157, .int .i64 t158, .int .i64 t159, .int .i64 t160, .int .i64 t161, .bool t162]] rfl (by (try simp only [List.map_toArray, List.map_cons, List.map_nil]); first | done | rfl | (simp only [List.length_drop, List.length_take]; rfl)) ?_; (with_reducible refine (cell_Of.calls k t154 t155 t156 t157 t158 t159 t160 t161 t162 t164 t165 t166 t167 _ A10.out).mono ?_); rintro e w20 ⟨rfl, hb⟩; refine ⟨_, rfl, ?_⟩; have n0_ := Aside0.mk (blk_below (g := gb152) (o := .cells #[.int .i64 a0_0, .int .i64 a0_1, .int .i64 a0_2] 23 (0, 0)) (by (with_reducible repeat (first | refine blk_drewN ?_ _ | refine blk_drew ?_ | refine blk_alloc ?_ _)); refine blk_far ?_ NB152_163.out _; (with_reducible repeat (first | refine blk_drewN ?_ _ | refine blk_drew ?_ | refine blk_alloc ?_ _)); refine blk_far ?_ NB152_163.out _; (with_reducible repeat (first | refine blk_drewN ?_ _ | refine blk_drew ?_ | refine blk_alloc ?_ _)); refine blk_far ?_ NB152_163.out _; (with_reducible repeat (first | refine blk_drewN ?_ _ | refine blk_drew ?_ | refine blk_alloc ?_ _)); refine blk_far ?_ NB152_163.out _; (with_reducible repeat (first | refine blk_drewN ?_ _ | refine blk_drew ?_ | refine blk_alloc ?_ _)); refine blk_far ?_ NB152_163.out _; (with_reducible repeat (first | refine blk_drewN ?_ _ | refine blk_drew ?_ | refine blk_alloc ?_ _)); refine blk_far ?_ NB152_163.out _; (with_reducible repeat (first | refine blk_drewN ?_ _ | refine blk_drew ?_ | refine blk_alloc ?_ _)); refine blk_far ?_ NB152_163.out _; (with_reducible repeat (first | refine blk_drewN ?_ _ | refine blk_drew ?_ | refine blk_alloc ?_ _)); refine blk_far ?_ NB152_163.out _; (with_reducible repeat (first | refine blk_drewN ?_ _ | refine blk_drew ?_ | refine blk_alloc ?_ _)); refine blk_far ?_ NB152_163.out _; (with_reducible repeat (first | refine blk_drewN ?_ _ | refine blk_drew ?_ | refine blk_alloc ?_ _)); exact BK152.out) hb); have n1_ := Aside0.mk (blk_below (g := gb163) (o := .cells #[.int .i64 t154, .int .i64 t155, .int .i64 t156, .int .i64 t157, .int .i64 t158, .int .i64 t159, .int .i64 t160, .int .i64 t161, .bool t162] 28 (0, 0)) (by (with_reducible repeat (first | refine blk_drewN ?_ _ | refine blk_drew ?_ | refine blk_alloc ?_ _)); refine blk_put (cs := #[.int .i64 t154, .int .i64 t155, .int .i64 t156, .int .i64 t157, .int .i64 t158, .int .i64 t159, .int .i64 t160, .int .i64 t161, .bool false]) ?_ 8 _ rfl; (with_reducible repeat (first | refine blk_drewN ?_ _ | refine blk_drew ?_ | refine blk_alloc ?_ _)); refine blk_put (cs := #[.int .i64 t154, .int .i64 t155, .int .i64 t156, .int .i64 t157, .int .i64 t158, .int .i64 t159, .int .i64 t160, .int .i64 0, .bool false]) ?_ 7 _ rfl; (with_reducible repeat (first | refine blk_drewN ?_ _ | refine blk_drew ?_ | refine blk_alloc ?_ _)); refine blk_put (cs := #[.int .i64 t154, .int .i64 t155, .int .i64 t156, .int .i64 t157, .int .i64 t158, .int .i64 t159, .int .i64 0, .int .i64 0, .bool false]) ?_ 6 _ rfl; (with_reducible repeat (first | refine blk_drewN ?_ _ | refine blk_drew ?_ | refine blk_alloc ?_ _)); refine blk_put (cs := #[.int .i64 t154, .int .i64 t155, .int .i64 t156, .int .i64 t157, .int .i64 t158, .int .i64 0, .int .i64 0, .int .i64 0, .bool false]) ?_ 5 _ rfl; (with_reducible repeat (first | refine blk_drewN ?_ _ | refine blk_drew ?_ | refine blk_alloc ?_ _)); refine blk_put (cs := #[.int .i64 t154, .int .i64 t155, .int .i64 t156, .int .i64 t157, .int .i64 0, .int .i64 0, .int .i64 0, .int .i64 0, .bool false]) ?_ 4 _ rfl; (with_reducible repeat (first | refine blk_drewN ?_ _ | refine blk_drew ?_ | refine blk_alloc ?_ _)); refine blk_put (cs := #[.int .i64 t154, .int .i64 t155, .int .i64 t156, .int .i64 0, .int .i64 0, .int .i64 0, .int .i64 0, .int .i64 0, .bool false]) ?_ 3 _ rfl; (with_reducible repeat (first | refine blk_drewN ?_ _ | refine blk_drew ?_ | refine blk_alloc ?_ _)); refine blk_put (cs := #[.int .i64 t154, .int .i64 t155, .int .i64 0, .int .i64 0, .int .i64 0, .int .i64 0, .int .i64 0, .int .i64 0, .bool false]) ?_ 2 _ rfl; (with_reducible repeat (first | refine blk_drewN ?_ _ | refine blk_drew ?_ | refine blk_alloc ?_ _)); refine blk_put (cs := #[.int .i64 t154, .int .i64 0, .int .i64 0, .int .i64 0, .int .i64 0, .int .i64 0, .int .i64 0, .int .i64 0, .bool false]) ?_ 1 _ rfl; (with_reducible repeat (first | refine blk_drewN ?_ _ | refine blk_drew ?_ | refine blk_alloc ?_ _)); refine blk_put (cs := #[.int .i64 0, .int .i64 0, .int .i64 0, .int .i64 0, .int .i64 0, .int .i64 0, .int .i64 0, .int .i64 0, .bool false]) ?_ 0 _ rfl; (with_reducible repeat (first | refine blk_drewN ?_ _ | refine blk_drew ?_ | refine blk_alloc ?_ _)); exact BK163.out) hb); have n2_ := Aside0.mk (below_step (by repeat (first | (with_reducible first | exact HB.out | apply below_alloc | apply pw_below_drewN | apply below_drew1 | refine below_set ?_ GE152.out | refine below_set ?_ GE163.out) | exact HB.out)) hb); clear BK152; clear BK163; clear HB; have BK152 := n0_; have BK163 := n1_; have HB := n2_; clear n0_ n1_ n2_; (try clear hb); (try clear hb2); (try clear hk); (try clear hi)) | ((with_reducible refine gate_dst (N := 8) rfl ?_); refine box_event ?hg (N := 8) ?hd (cs := #[.int .i64 0, .int .i64 0, .int .i64 0, .int .i64 0]) (t := 31) ?hr ?_; (case hd => rfl); (case hg => rfl); (case hr => first | (go_simp; done) | (go_simp; rfl)); intro gb168 hg w21 hbox hb; have n0_ := Aside0.mk (blk_below (g := gb152) (o := .cells #[.int .i64 a0_0, .int .i64 a0_1, .int .i64 a0_2] 23 (0, 0)) (by (with_reducible repeat (first | refine blk_drewN ?_ _ | refine blk_drew ?_ | refine blk_alloc ?_ _)); exact BK152.out) hb); have n1_ := Aside0.mk (blk_below (g := gb163) (o := .cells #[.int .i64 t154, .int .i64 t155, .int .i64 t156, .int .i64 t157, .int .i64 t158, .int .i64 t159, .int .i64 t160, .int .i64 t161, .bool t162] 28 (0, 0)) (by (with_reducible repeat (first | refine blk_drewN ?_ _ | refine blk_drew ?_ | refine blk_alloc ?_ _)); exact BK163.out) hb); have n2_ := Aside0.mk (below_step (by repeat (first | (with_reducible first | exact HB.out | apply below_alloc | apply pw_below_drewN | apply below_drew1 | refine below_set ?_ GE152.out | refine below_set ?_ GE163.out) | exact HB.out)) hb); have n3_ := Aside0.mk (hbox); have n4_ := Aside0.mk ((by rw [hg]; exact (below_size (by repeat (first | (with_reducible first | exact HB.out | apply below_alloc | apply pw_below_drewN | apply below_drew1 | refine below_set ?_ GE152.out | refine below_set ?_ GE163.out) | exact HB.out))) : w.heap.size ≤ gb168)); have n5_ := Aside0.mk ((by rw [hg]; exact (below_size (by repeat (first | (with_reducible first | exact HB.out | apply below_alloc | apply pw_below_drewN | apply below_drew1 | refine below_set ?_ GE152.out | refine below_set ?_ GE163.out) | exact HB.out))) : w.heap.size ≤ gb168)); have n6_ := Aside0.mk ((by rw [hg]; exact Nat.ne_of_lt (blk_lt (g := gb152) (o := .cells #[.int .i64 a0_0, .int .i64 a0_1, .int .i64 a0_2] 23 (0, 0)) (by (with_reducible repeat (first | refine blk_drewN ?_ _ | refine blk_drew ?_ | refine blk_alloc ?_ _)); exact BK152.out)) : gb152 ≠ gb168)); have n7_ := Aside0.mk ((by rw [hg]; exact Nat.ne_of_gt (blk_lt (g := gb152) (o := .cells #[.int .i64 a0_0, .int .i64 a0_1, .int .i64 a0_2] 23 (0, 0)) (by (with_reducible repeat (first | refine blk_drewN ?_ _ | refine blk_drew ?_ | refine blk_alloc ?_ _)); exact BK152.out)) : gb168 ≠ gb152)); have n8_ := Aside0.mk ((by rw [hg]; exact Nat.ne_of_lt (blk_lt (g := gb163) (o := .cells #[.int .i64 t154, .int .i64 t155, .int .i64 t156, .int .i64 t157, .int .i64 t158, .int .i64 t159, .int .i64 t160, .int .i64 t161, .bool t162] 28 (0, 0)) (by (with_reducible repeat (first | refine blk_drewN ?_ _ | refine blk_drew ?_ | refine blk_alloc ?_ _)); exact BK163.out)) : gb163 ≠ gb168)); have n9_ := Aside0.mk ((by rw [hg]; exact Nat.ne_of_gt (blk_lt (g := gb163) (o := .cells #[.int .i64 t154, .int .i64 t155, .int .i64 t156, .int .i64 t157, .int .i64 t158, .int .i64 t159, .int .i64 t160, .int .i64 t161, .bool t162] 28 (0, 0)) (by (with_reducible repeat (first | refine blk_drewN ?_ _ | refine blk_drew ?_ | refine blk_alloc ?_ _)); exact BK163.out)) : gb168 ≠ gb163)); clear BK152; clear BK163; clear HB; have BK152 := n0_; have BK163 := n1_; have HB := n2_; have BK168 := n3_; have GW168 := n4_; have GE168 := n5_; have NB152_168 := n6_; have NB168_152 := n7_; have NB163_168 := n8_; have NB168_163 := n9_; clear n0_ n1_ n2_ n3_ n4_ n5_ n6_ n7_ n8_ n9_; clear hb hbox hg; have hnb22 := NB168_152.out; have hnc22 := NB152_168.out; have hnb23 := NB168_163.out; have hnc23 := NB163_168.out; have hcz24_0 : w21.cell? ⟨gb168, 0, none⟩ = some (.int .i64 0) := (blk_cell BK168.out 0).trans rfl; have hcz24_1 : w21.cell? ⟨gb168, 1, none⟩ = some (.int .i64 0) := (blk_cell BK168.out 1).trans rfl; have hcz24_2 : w21.cell? ⟨gb168, 2, none⟩ = some (.int .i64 0) := (blk_cell BK168.out 2).trans rfl; have hcz24_3 : w21.cell? ⟨gb168, 3, none⟩ = some (.int .i64 0) := (blk_cell BK168.out 3).trans rfl; have hfz24_0 := blk_frozen BK168.out 0; have hfz24_1 := blk_frozen BK168.out 1; have hfz24_2 := blk_frozen BK168.out 2; have hfz24_3 := blk_frozen BK168.out 3) | ((with_reducible refine gate_callee (f := 15) rfl ?_); refine goesL_ (some 26) rfl rfl Try.func15 (by kernel_rfl) rfl #[.int .i64 3, .int .i64 1] rfl (by (try simp only [List.map_toArray, List.map_cons, List.map_nil]); first | done | rfl | (simp only [List.length_drop, List.length_take]; rfl)) ?_; (with_reducible refine (cell_New.calls 3 1 t169 t170 t171 t172 _ A11.out).mono ?_); rintro e w25 ⟨rfl, hb⟩; refine ⟨_, rfl, ?_⟩; have n0_ := Aside0.mk (blk_below (g := gb152) (o := .cells #[.int .i64 a0_0, .int .i64 a0_1, .int .i64 a0_2] 23 (0, 0)) (by (with_reducible repeat (first | refine blk_drewN ?_ _ | refine blk_drew ?_ | refine blk_alloc ?_ _)); refine blk_far ?_ NB152_168.out _; (with_reducible repeat (first | refine blk_drewN ?_ _ | refine blk_drew ?_ | refine blk_alloc ?_ _)); refine blk_far ?_ NB152_168.out _; (with_reducible repeat (first | refine blk_drewN ?_ _ | refine blk_drew ?_ | refine blk_alloc ?_ _)); refine blk_far ?_ NB152_168.out _; (with_reducible repeat (first | refine blk_drewN ?_ _ | refine blk_drew ?_ | refine blk_alloc ?_ _)); refine blk_far ?_ NB152_168.out _; (with_reducible repeat (first | refine blk_drewN ?_ _ | refine blk_drew ?_ | refine blk_alloc ?_ _)); exact BK152.out) hb); have n1_ := Aside0.mk (blk_below (g := gb163) (o := .cells #[.int .i64 t154, .int .i64 t155, .int .i64 t156, .int .i64 t157, .int .i64 t158, .int .i64 t159, .int .i64 t160, .int .i64 t161, .bool t162] 28 (0, 0)) (by (with_reducible repeat (first | refine blk_drewN ?_ _ | refine blk_drew ?_ | refine blk_alloc ?_ _)); refine blk_far ?_ NB163_168.out _; (with_reducible repeat (first | refine blk_drewN ?_ _ | refine blk_drew ?_ | refine blk_alloc ?_ _)); refine blk_far ?_ NB163_168.out _; (with_reducible repeat (first | refine blk_drewN ?_ _ | refine blk_drew ?_ | refine blk_alloc ?_ _)); refine blk_far ?_ NB163_168.out _; (with_reducible repeat (first | refine blk_drewN ?_ _ | refine blk_drew ?_ | refine blk_alloc ?_ _)); refine blk_far ?_ NB163_168.out _; (with_reducible repeat (first | refine blk_drewN ?_ _ | refine blk_drew ?_ | refine blk_alloc ?_ _)); exact BK163.out) hb); have n2_ := Aside0.mk (blk_below (g := gb168) (o := .cells #[.int .i64 t164, .int .i64 t165, .int .i64 t166, .int .i64 t167] 31 (0, 0)) (by (with_reducible repeat (first | refine blk_drewN ?_ _ | refine blk_drew ?_ | refine blk_alloc ?_ _)); refine blk_put (cs := #[.int .i64 t164, .int .i64 t165, .int .i64 t166, .int .i64 0]) ?_ 3 _ rfl; (with_reducible repeat (first | refine blk_drewN ?_ _ | refine blk_drew ?_ | refine blk_alloc ?_ _)); refine blk_put (cs := #[.int .i64 t164, .int .i64 t165, .int .i64 0, .int .i64 0]) ?_ 2 _ rfl; (with_reducible repeat (first | refine blk_drewN ?_ _ | refine blk_drew ?_ | refine blk_alloc ?_ _)); refine blk_put (cs := #[.int .i64 t164, .int .i64 0, .int .i64 0, .int .i64 0]) ?_ 1 _ rfl; (with_reducible repeat (first | refine blk_drewN ?_ _ | refine blk_drew ?_ | refine blk_alloc ?_ _)); refine blk_put (cs := #[.int .i64 0, .int .i64 0, .int .i64 0, .int .i64 0]) ?_ 0 _ rfl; (with_reducible repeat (first | refine blk_drewN ?_ _ | refine blk_drew ?_ | refine blk_alloc ?_ _)); exact BK168.out) hb); have n3_ := Aside0.mk (below_step (by repeat (first | (with_reducible first | exact HB.out | apply below_alloc | apply pw_below_drewN | apply below_drew1 | refine below_set ?_ GE152.out | refine below_set ?_ GE163.out | refine below_set ?_ GE168.out) | exact HB.out)) hb); clear BK152; clear BK163; clear BK168; clear HB; have BK152 := n0_; have BK163 := n1_; have BK168 := n2_; have HB := n3_; clear n0_ n1_ n2_ n3_; (try clear hb); (try clear hb2); (try clear hk); (try clear hi)) | ((with_reducible refine gate_callee (f := 15) rfl ?_); refine goesL_ (some 29) rfl rfl Try.func15 (by kernel_rfl) rfl #[.int .i64 (wrap64 (3 + (Go.bits .and .i64 a1 1152921504606846975))), .int .i64 1] rfl (by (try simp only [List.map_toArray, List.map_cons, List.map_nil]); first | done | rfl | (simp only [List.length_drop, List.length_take]; rfl)) ?_; (with_reducible refine (cell_New.calls (wrap64 (3 + (Go.bits .and .i64 a1 1152921504606846975))) 1 t173 t174 t175 t176 _ A12.out).mono ?_); rintro e w26 ⟨rfl, hb⟩; refine ⟨_, rfl, ?_⟩; have n0_ := Aside0.mk (blk_below (g := gb152) (o := .cells #[.int .i64 a0_0, .int .i64 a0_1, .int .i64 a0_2] 23 (0, 0)) (by (with_reducible repeat (first | refine blk_drewN ?_ _ | refine blk_drew ?_ | refine blk_alloc ?_ _)); exact BK152.out) hb); have n1_ := Aside0.mk (blk_below (g := gb163) (o := .cells #[.int .i64 t154, .int .i64 t155, .int .i64 t156, .int .i64 t157, .int .i64 t158, .int .i64 t159, .int .i64 t160, .int .i64 t161, .bool t162] 28 (0, 0)) (by (with_reducible repeat (first | refine blk_drewN ?_ _ | refine blk_drew ?_ | refine blk_alloc ?_ _)); exact BK163.out) hb); have n2_ := Aside0.mk (blk_below (g := gb168) (o := .cells #[.int .i64 t164, .int .i64 t165, .int .i64 t166, .int .i64 t167] 31 (0, 0)) (by (with_reducible repeat (first | refine blk_drewN ?_ _ | refine blk_drew ?_ | refine blk_alloc ?_ _)); exact BK168.out) hb); have n3_ := Aside0.mk (below_step (by repeat (first | (with_reducible first | exact HB.out | apply below_alloc | apply pw_below_drewN | apply below_drew1 | refine below_set ?_ GE152.out | refine below_set ?_ GE163.out | refine below_set ?_ GE168.out) | exact HB.out)) hb); clear BK152; clear BK163; clear BK168; clear HB; have BK152 := n0_; have BK163 := n1_; have BK168 := n2_; have HB := n3_; clear n0_ n1_ n2_ n3_; (try clear hb); (try clear hb2); (try clear hk); (try clear hi)) | ((with_reducible refine gate_dst (N := 9) rfl ?_); refine box_event ?hg (N := 9) ?hd (cs := #[.int .i64 0, .int .i64 0, .int .i64 0, .int .i64 0]) (t := 36) ?hr ?_; (case hd => rfl); (case hg => rfl); (case hr => first | (go_simp; done) | (go_simp; rfl)); intro gb177 hg w27 hbox hb; have n0_ := Aside0.mk (blk_below (g := gb152) (o := .cells #[.int .i64 a0_0, .int .i64 a0_1, .int .i64 a0_2] 23 (0, 0)) (by (with_reducible repeat (first | refine blk_drewN ?_ _ | refine blk_drew ?_ | refine blk_alloc ?_ _)); exact BK152.out) hb); have n1_ := Aside0.mk (blk_below (g := gb163) (o := .cells #[.int .i64 t154, .int .i64 t155, .int .i64 t156, .int .i64 t157, .int .i64 t158, .int .i64 t159, .int .i64 t160, .int .i64 t161, .bool t162] 28 (0, 0)) (by (with_reducible repeat (first | refine blk_drewN ?_ _ | refine blk_drew ?_ | refine blk_alloc ?_ _)); exact BK163.out) hb); have n2_ := Aside0.mk (blk_below (g := gb168) (o := .cells #[.int .i64 t164, .int .i64 t165, .int .i64 t166, .int .i64 t167] 31 (0, 0)) (by (with_reducible repeat (first | refine blk_drewN ?_ _ | refine blk_drew ?_ | refine blk_alloc ?_ _)); exact BK168.out) hb); have n3_ := Aside0.mk (below_step (by repeat (first | (with_reducible first | exact HB.out | apply below_alloc | apply pw_below_drewN | apply below_drew1 | refine below_set ?_ GE152.out | refine below_set ?_ GE163.out | refine below_set ?_ GE168.out) | exact HB.out)) hb); have n4_ := Aside0.mk ((by rw [hg]; exact (below_size (by repeat (first | (with_reducible first | exact HB.out | apply below_alloc | apply pw_below_drewN | apply below_drew1 | refine below_set ?_ GE152.out | refine below_set ?_ GE163.out | refine below_set ?_ GE168.out) | exact HB.out))) : w.heap.size ≤ gb177)); have n5_ := Aside0.mk ((by rw [hg]; exact (below_size (by repeat (first | (with_reducible first | exact HB.out | apply below_alloc | apply pw_below_drewN | apply below_drew1 | refine below_set ?_ GE152.out | refine below_set ?_ GE163.out | refine below_set ?_ GE168.out) | exact HB.out))) : w.heap.size ≤ gb177)); have n6_ := Aside0.mk ((by rw [hg]; exact Nat.ne_of_lt (blk_lt (g := gb152) (o := .cells #[.int .i64 a0_0, .int .i64 a0_1, .int .i64 a0_2] 23 (0, 0)) (by (with_reducible repeat (first | refine blk_drewN ?_ _ | refine blk_drew ?_ | refine blk_alloc ?_ _)); exact BK152.out)) : gb152 ≠ gb177)); have n7_ := Aside0.mk ((by rw [hg]; exact Nat.ne_of_gt (blk_lt (g := gb152) (o := .cells #[.int .i64 a0_0, .int .i64 a0_1, .int .i64 a0_2] 23 (0, 0)) (by (with_reducible repeat (first | refine blk_drewN ?_ _ | refine blk_drew ?_ | refine blk_alloc ?_ _)); exact BK152.out)) : gb177 ≠ gb152)); have n8_ := Aside0.mk ((by rw [hg]; exact Nat.ne_of_lt (blk_lt (g := gb163) (o := .cells #[.int .i64 t154, .int .i64 t155, .int .i64 t156, .int .i64 t157, .int .i64 t158, .int .i64 t159, .int .i64 t160, .int .i64 t161, .bool t162] 28 (0, 0)) (by (with_reducible repeat (first | refine blk_drewN ?_ _ | refine blk_drew ?_ | refine blk_alloc ?_ _)); exact BK163.out)) : gb163 ≠ gb177)); have n9_ := Aside0.mk ((by rw [hg]; exact Nat.ne_of_gt (blk_lt (g := gb163) (o := .cells #[.int .i64 t154, .int .i64 t155, .int .i64 t156, .int .i64 t157, .int .i64 t158, .int .i64 t159, .int .i64 t160, .int .i64 t161, .bool t162] 28 (0, 0)) (by (with_reducible repeat (first | refine blk_drewN ?_ _ | refine blk_drew ?_ | refine blk_alloc ?_ _)); exact BK163.out)) : gb177 ≠ gb163)); have n10_ := Aside0.mk ((by rw [hg]; exact Nat.ne_of_lt (blk_lt (g := gb168) (o := .cells #[.int .i64 t164, .int .i64 t165, .int .i64 t166, .int .i64 t167] 31 (0, 0)) (by (with_reducible repeat (first | refine blk_drewN ?_ _ | refine blk_drew ?_ | refine blk_alloc ?_ _)); exact BK168.out)) : gb168 ≠ gb177)); have n11_ := Aside0.mk ((by rw [hg]; exact Nat.ne_of_gt (blk_lt (g := gb168) (o := .cells #[.int .i64 t164, .int .i64 t165, .int .i64 t166, .int .i64 t167] 31 (0, 0)) (by (with_reducible repeat (first | refine blk_drewN ?_ _ | refine blk_drew ?_ | refine blk_alloc ?_ _)); exact BK168.out)) : gb177 ≠ gb168)); have n12_ := Aside0.mk ((show IsS36 w w27 gb177 0 0 0 0 from ⟨hbox, by rw [hg]; exact (below_size (by repeat (first | (with_reducible first | exact HB.out | apply below_alloc | apply pw_below_drewN | apply below_drew1 | refine below_set ?_ GE152.out | refine below_set ?_ GE163.out | refine below_set ?_ GE168.out) | exact HB.out)))⟩)); clear BK152; clear BK163; clear BK168; clear HB; have BK152 := n0_; have BK163 := n1_; have BK168 := n2_; have HB := n3_; have GW177 := n4_; have GE177 := n5_; have NB152_177 := n6_; have NB177_152 := n7_; have NB163_177 := n8_; have NB177_163 := n9_; have NB168_177 := n10_; have NB177_168 := n11_; have HI177 := n12_; clear n0_ n1_ n2_ n3_ n4_ n5_ n6_ n7_ n8_ n9_ n10_ n11_ n12_; clear hb hbox hg) | ((with_reducible refine gate_dst (N := 10) rfl ?_); refine box_event ?hg (N := 10) ?hd (cs := #[.int .i64 0, .int .i64 0, .int .i64 0, .int .i64 0]) (t := 36) ?hr ?_; (case hd => rfl); (case hg => rfl); (case hr => first | (go_simp; done) | (go_simp; rfl)); intro gb178 hg w28 hbox hb; have n0_ := Aside0.mk (blk_below (g := gb152) (o := .cells #[.int .i64 a0_0, .int .i64 a0_1, .int .i64 a0_2] 23 (0, 0)) (by (with_reducible repeat (first | refine blk_drewN ?_ _ | refine blk_drew ?_ | refine blk_alloc ?_ _)); exact BK152.out) hb); have n1_ := Aside0.mk (blk_below (g := gb163) (o := .cells #[.int .i64 t154, .int .i64 t155, .int .i64 t156, .int .i64 t157, .int .i64 t158, .int .i64 t159, .int .i64 t160, .int .i64 t161, .bool t162] 28 (0, 0)) (by (with_reducible repeat (first | refine blk_drewN ?_ _ | refine blk_drew ?_ | refine blk_alloc ?_ _)); exact BK163.out) hb); have n2_ := Aside0.mk (blk_below (g := gb168) (o := .cells #[.int .i64 t164, .int .i64 t165, .int .i64 t166, .int .i64 t167] 31 (0, 0)) (by (with_reducible repeat (first | refine blk_drewN ?_ _ | refine blk_drew ?_ | refine blk_alloc ?_ _)); exact BK168.out) hb); have n3_ := Aside0.mk (IsS36.below (by repeat (first | (with_reducible first | exact HI177.out | apply IsS36.alloc | apply IsS36.drewN | apply IsS36.drew | apply IsS36.set_0 | apply IsS36.set_1 | apply IsS36.set_2 | apply IsS36.set_3 | refine IsS36.far ?_ NB177_152.out _ | refine IsS36.far ?_ NB177_163.out _ | refine IsS36.far ?_ NB177_168.out _) | exact HI177.out)) hb); have n4_ := Aside0.mk (below_step (by repeat (first | (with_reducible first | exact HB.out | apply below_alloc | apply pw_below_drewN | apply below_drew1 | refine below_set ?_ (IsS36.ge HI177.out) | refine below_set ?_ GE152.out | refine below_set ?_ GE163.out | refine below_set ?_ GE168.out) | exact HB.out)) hb); have n5_ := Aside0.mk ((by rw [hg]; exact (below_size (by repeat (first | (with_reducible first | exact HB.out | apply below_alloc | apply pw_below_drewN | apply below_drew1 | refine below_set ?_ (IsS36.ge HI177.out) | refine below_set ?_ GE152.out | refine below_set ?_ GE163.out | refine below_set ?_ GE168.out) | exact HB.out))) : w.heap.size ≤ gb178)); have n6_ := Aside0.mk ((by rw [hg]; exact (below_size (by repeat (first | (with_reducible first | exact HB.out | apply below_alloc | apply pw_below_drewN | apply below_drew1 | refine below_set ?_ (IsS36.ge HI177.out) | refine below_set ?_ GE152.out | refine below_set ?_ GE163.out | refine below_set ?_ GE168.out) | exact HB.out))) : w.heap.size ≤ gb178)); have n7_ := Aside0.mk ((by rw [hg]; exact Nat.ne_of_lt (blk_lt (g := gb152) (o := .cells #[.int .i64 a0_0, .int .i64 a0_1, .int .i64 a0_2] 23 (0, 0)) (by (with_reducible repeat (first | refine blk_drewN ?_ _ | refine blk_drew ?_ | refine blk_alloc ?_ _)); exact BK152.out)) : gb152 ≠ gb178)); have n8_ := Aside0.mk ((by rw [hg]; exact Nat.ne_of_gt (blk_lt (g := gb152) (o := .cells #[.int .i64 a0_0, .int .i64 a0_1, .int .i64 a0_2] 23 (0, 0)) (by (with_reducible repeat (first | refine blk_drewN ?_ _ | refine blk_drew ?_ | refine blk_alloc ?_ _)); exact BK152.out)) : gb178 ≠ gb152)); have n9_ := Aside0.mk ((by rw [hg]; exact Nat.ne_of_lt (blk_lt (g := gb163) (o := .cells #[.int .i64 t154, .int .i64 t155, .int .i64 t156, .int .i64 t157, .int .i64 t158, .int .i64 t159, .int .i64 t160, .int .i64 t161, .bool t162] 28 (0, 0)) (by (with_reducible repeat (first | refine blk_drewN ?_ _ | refine blk_drew ?_ | refine blk_alloc ?_ _)); exact BK163.out)) : gb163 ≠ gb178)); have n10_ := Aside0.mk ((by rw [hg]; exact Nat.ne_of_gt (blk_lt (g := gb163) (o := .cells #[.int .i64 t154, .int .i64 t155, .int .i64 t156, .int .i64 t157, .int .i64 t158, .int .i64 t159, .int .i64 t160, .int .i64 t161, .bool t162] 28 (0, 0)) (by (with_reducible repeat (first | refine blk_drewN ?_ _ | refine blk_drew ?_ | refine blk_alloc ?_ _)); exact BK163.out)) : gb178 ≠ gb163)); have n11_ := Aside0.mk ((by rw [hg]; exact Nat.ne_of_lt (blk_lt (g := gb168) (o := .cells #[.int .i64 t164, .int .i64 t165, .int .i64 t166, .int .i64 t167] 31 (0, 0)) (by (with_reducible repeat (first | refine blk_drewN ?_ _ | refine blk_drew ?_ | refine blk_alloc ?_ _)); exact BK168.out)) : gb168 ≠ gb178)); have n12_ := Aside0.mk ((by rw [hg]; exact Nat.ne_of_gt (blk_lt (g := gb168) (o := .cells #[.int .i64 t164, .int .i64 t165, .int .i64 t166, .int .i64 t167] 31 (0, 0)) (by (with_reducible repeat (first | refine blk_drewN ?_ _ | refine blk_drew ?_ | refine blk_alloc ?_ _)); exact BK168.out)) : gb178 ≠ gb168)); have n13_ := Aside0.mk ((by rw [hg]; exact Nat.ne_of_lt (IsS36.lt (show IsS36 w _ gb177 0 0 0 0 from by repeat (first | (with_reducible first | exact HI177.out | apply IsS36.alloc | apply IsS36.drewN | apply IsS36.drew | apply IsS36.set_0 | apply IsS36.set_1 | apply IsS36.set_2 | apply IsS36.set_3 | refine IsS36.far ?_ NB177_152.out _ | refine IsS36.far ?_ NB177_163.out _ | refine IsS36.far ?_ NB177_168.out _) | exact HI177.out))) : gb177 ≠ gb178)); have n14_ := Aside0.mk ((by rw [hg]; exact Nat.ne_of_gt (IsS36.lt (show IsS36 w _ gb177 0 0 0 0 from by repeat (first | (with_reducible first | exact HI177.out | apply IsS36.alloc | apply IsS36.drewN | apply IsS36.drew | apply IsS36.set_0 | apply IsS36.set_1 | apply IsS36.set_2 | apply IsS36.set_3 | refine IsS36.far ?_ NB177_152.out _ | refine IsS36.far ?_ NB177_163.out _ | refine IsS36.far ?_ NB177_168.out _) | exact HI177.out))) : gb178 ≠ gb177)); have n15_ := Aside0.mk ((show IsS36 w w28 gb178 0 0 0 0 from ⟨hbox, by rw [hg]; exact (below_size (by repeat (first | (with_reducible first | exact HB.out | apply below_alloc | apply pw_below_drewN | apply below_drew1 | refine below_set ?_ (IsS36.ge HI177.out) | refine below_set ?_ GE152.out | refine below_set ?_ GE163.out | refine below_set ?_ GE168.out) | exact HB.out)))⟩)); clear BK152; clear BK163; clear BK168; clear HI177; clear HB; have BK152 := n0_; have BK163 := n1_; have BK168 := n2_; have HI177 := n3_; have HB := n4_; have GW178 := n5_; have GE178 := n6_; have NB152_178 := n7_; have NB178_152 := n8_; have NB163_178 := n9_; have NB178_163 := n10_; have NB168_178 := n11_; have NB178_168 := n12_; have NB177_178 := n13_; have NB178_177 := n14_; have HI178 := n15_; clear n0_ n1_ n2_ n3_ n4_ n5_ n6_ n7_ n8_ n9_ n10_ n11_ n12_ n13_ n14_ n15_; clear hb hbox hg; (try have hnb29 := NB177_178.out); (try have hnc29 := NB178_177.out); obtain ⟨HGz30, hgz30⟩ := HI177.out; have hcz30_0 := cellS36_0 HGz30; have hcz30_1 := cellS36_1 HGz30; have hcz30_2 := cellS36_2 HGz30; have hcz30_3 := cellS36_3 HGz30; have hfz30_0 := blk_frozen HGz30 0; have hfz30_1 := blk_frozen HGz30 1; have hfz30_2 := blk_frozen HGz30 2; have hfz30_3 := blk_frozen HGz30 3; clear HGz30 hgz30; obtain ⟨HGz31, hgz31⟩ := HI178.out; have hcz31_0 := cellS36_0 HGz31; have hcz31_1 := cellS36_1 HGz31; have hcz31_2 := cellS36_2 HGz31; have hcz31_3 := cellS36_3 HGz31; have hfz31_0 := blk_frozen HGz31 0; have hfz31_1 := blk_frozen HGz31 1; have hfz31_2 := blk_frozen HGz31 2; have hfz31_3 := blk_frozen HGz31 3; clear HGz31 hgz31))
      go_loopg [11, 32] k (fun kq v11 v32 w' => ∃ (x11_1 : Int) (x32_1 : Int) (x178000_1 : Int) (x178001_1 : Int) (x178002_1 : Int) (x178003_1 : Int) (x179000_1 : Int) (x179001_1 : Int) (x179002_1 : Int) (x179003_1 : Int), v11 = .int .i64 x11_1 ∧ v32 = .int .i64 x32_1 ∧ Aside0 (weighbridgelaw09_CellShift.l0 kq (Go.bits .and .i64 a1 1152921504606846975) x11_1 l2 (l2.length : Int) x32_1 t154 t155 t156 t157 t158 t159 t160 t161 t162 t164 t165 t166 t167 x178000_1 x178001_1 x178002_1 x178003_1 x179000_1 x179001_1 x179002_1 x179003_1 = some r) ∧ Aside0 (kq ≤ k) ∧ Aside0 (w'.heap[gb152]? = some (.cells #[.int .i64 a0_0, .int .i64 a0_1, .int .i64 a0_2] 23 (0, 0))) ∧ Aside0 (w'.heap[gb163]? = some (.cells #[.int .i64 t154, .int .i64 t155, .int .i64 t156, .int .i64 t157, .int .i64 t158, .int .i64 t159, .int .i64 t160, .int .i64 t161, .bool t162] 28 (0, 0))) ∧ Aside0 (w'.heap[gb168]? = some (.cells #[.int .i64 t164, .int .i64 t165, .int .i64 t166, .int .i64 t167] 31 (0, 0))) ∧ Aside0 (IsS36 w w' gb177 x178000_1 x178001_1 x178002_1 x178003_1) ∧ Aside0 (IsS36 w w' gb178 x179000_1 x179001_1 x179002_1 x179003_1) ∧ Aside0 (Below w.heap.size w w'))
      case atStart => exact ⟨(3), (0), (t169), (t170), (t171), (t172), (t173), (t174), (t175), (t176), (by first | rfl | (simp; done) | (simp [*]; done)), (by first | rfl | (simp; done) | (simp [*]; done)), H', ⟨Nat.le_refl _⟩, ⟨by (with_reducible repeat (first | refine blk_drewN ?_ _ | refine blk_drew ?_ | refine blk_alloc ?_ _)); refine blk_far ?_ NB152_178.out _; (with_reducible repeat (first | refine blk_drewN ?_ _ | refine blk_drew ?_ | refine blk_alloc ?_ _)); refine blk_far ?_ NB152_178.out _; (with_reducible repeat (first | refine blk_drewN ?_ _ | refine blk_drew ?_ | refine blk_alloc ?_ _)); refine blk_far ?_ NB152_178.out _; (with_reducible repeat (first | refine blk_drewN ?_ _ | refine blk_drew ?_ | refine blk_alloc ?_ _)); refine blk_far ?_ NB152_178.out _; (with_reducible repeat (first | refine blk_drewN ?_ _ | refine blk_drew ?_ | refine blk_alloc ?_ _)); refine blk_far ?_ NB152_177.out _; (with_reducible repeat (first | refine blk_drewN ?_ _ | refine blk_drew ?_ | refine blk_alloc ?_ _)); refine blk_far ?_ NB152_177.out _; (with_reducible repeat (first | refine blk_drewN ?_ _ | refine blk_drew ?_ | refine blk_alloc ?_ _)); refine blk_far ?_ NB152_177.out _; (with_reducible repeat (first | refine blk_drewN ?_ _ | refine blk_drew ?_ | refine blk_alloc ?_ _)); refine blk_far ?_ NB152_177.out _; (with_reducible repeat (first | refine blk_drewN ?_ _ | refine blk_drew ?_ | refine blk_alloc ?_ _)); exact BK152.out⟩, ⟨by (with_reducible repeat (first | refine blk_drewN ?_ _ | refine blk_drew ?_ | refine blk_alloc ?_ _)); refine blk_far ?_ NB163_178.out _; (with_reducible repeat (first | refine blk_drewN ?_ _ | refine blk_drew ?_ | refine blk_alloc ?_ _)); refine blk_far ?_ NB163_178.out _; (with_reducible repeat (first | refine blk_drewN ?_ _ | refine blk_drew ?_ | refine blk_alloc ?_ _)); refine blk_far ?_ NB163_178.out _; (with_reducible repeat (first | refine blk_drewN ?_ _ | refine blk_drew ?_ | refine blk_alloc ?_ _)); refine blk_far ?_ NB163_178.out _; (with_reducible repeat (first | refine blk_drewN ?_ _ | refine blk_drew ?_ | refine blk_alloc ?_ _)); refine blk_far ?_ NB163_177.out _; (with_reducible repeat (first | refine blk_drewN ?_ _ | refine blk_drew ?_ | refine blk_alloc ?_ _)); refine blk_far ?_ NB163_177.out _; (with_reducible repeat (first | refine blk_drewN ?_ _ | refine blk_drew ?_ | refine blk_alloc ?_ _)); refine blk_far ?_ NB163_177.out _; (with_reducible repeat (first | refine blk_drewN ?_ _ | refine blk_drew ?_ | refine blk_alloc ?_ _)); refine blk_far ?_ NB163_177.out _; (with_reducible repeat (first | refine blk_drewN ?_ _ | refine blk_drew ?_ | refine blk_alloc ?_ _)); exact BK163.out⟩, ⟨by (with_reducible repeat (first | refine blk_drewN ?_ _ | refine blk_drew ?_ | refine blk_alloc ?_ _)); refine blk_far ?_ NB168_178.out _; (with_reducible repeat (first | refine blk_drewN ?_ _ | refine blk_drew ?_ | refine blk_alloc ?_ _)); refine blk_far ?_ NB168_178.out _; (with_reducible repeat (first | refine blk_drewN ?_ _ | refine blk_drew ?_ | refine blk_alloc ?_ _)); refine blk_far ?_ NB168_178.out _; (with_reducible repeat (first | refine blk_drewN ?_ _ | refine blk_drew ?_ | refine blk_alloc ?_ _)); refine blk_far ?_ NB168_178.out _; (with_reducible repeat (first | refine blk_drewN ?_ _ | refine blk_drew ?_ | refine blk_alloc ?_ _)); refine blk_far ?_ NB168_177.out _; (with_reducible repeat (first | refine blk_drewN ?_ _ | refine blk_drew ?_ | refine blk_alloc ?_ _)); refine blk_far ?_ NB168_177.out _; (with_reducible repeat (first | refine blk_drewN ?_ _ | refine blk_drew ?_ | refine blk_alloc ?_ _)); refine blk_far ?_ NB168_177.out _; (with_reducible repeat (first | refine blk_drewN ?_ _ | refine blk_drew ?_ | refine blk_alloc ?_ _)); refine blk_far ?_ NB168_177.out _; (with_reducible repeat (first | refine blk_drewN ?_ _ | refine blk_drew ?_ | refine blk_alloc ?_ _)); exact BK168.out⟩, ⟨by repeat (first | (with_reducible first | exact HI177.out | exact (IsS36.far (IsS36.far (IsS36.far (IsS36.far (IsS36.set_3 (IsS36.set_2 (IsS36.set_1 (IsS36.set_0 HI177.out _) _) _) _) NB177_178.out _) NB177_178.out _) NB177_178.out _) NB177_178.out _) | apply IsS36.alloc | apply IsS36.drewN | apply IsS36.drew | apply IsS36.set_0 | apply IsS36.set_1 | apply IsS36.set_2 | apply IsS36.set_3 | refine IsS36.far ?_ NB177_152.out _ | refine IsS36.far ?_ NB177_163.out _ | refine IsS36.far ?_ NB177_168.out _ | refine IsS36.far ?_ NB177_178.out _) | exact HI177.out)⟩, ⟨by repeat (first | (with_reducible first | exact HI178.out | exact (IsS36.set_3 (IsS36.set_2 (IsS36.set_1 (IsS36.set_0 (IsS36.far (IsS36.far (IsS36.far (IsS36.far HI178.out NB178_177.out _) NB178_177.out _) NB178_177.out _) NB178_177.out _) _) _) _) _) | apply IsS36.alloc | apply IsS36.drewN | apply IsS36.drew | apply IsS36.set_0 | apply IsS36.set_1 | apply IsS36.set_2 | apply IsS36.set_3 | refine IsS36.far ?_ NB178_152.out _ | refine IsS36.far ?_ NB178_163.out _ | refine IsS36.far ?_ NB178_168.out _ | refine IsS36.far ?_ NB178_177.out _) | exact HI178.out)⟩, ⟨by repeat (first | (with_reducible first | exact HB.out | apply below_alloc | apply pw_below_drewN | apply below_drew1 | refine below_set ?_ (IsS36.ge HI177.out) | refine below_set ?_ (IsS36.ge HI178.out) | refine below_set ?_ GE152.out | refine below_set ?_ GE163.out | refine below_set ?_ GE168.out) | exact HB.out)⟩⟩
      case round =>
        clear H'
        try clear c1
        try clear c2
        try clear p2
        try clear c5
        try clear c6
        try clear c6b0
        try clear c6b1
        try clear p6
        try clear c10
        try clear c11
        try clear c12
        try clear c13
        try clear c15
        try clear c18
        try clear c22
        try clear c23
        try clear c29
        try clear hcz15_0
        try clear hcz15_1
        try clear hcz15_2
        try clear hcz19_0
        try clear hcz19_1
        try clear hcz19_2
        try clear hcz19_3
        try clear hcz19_4
        try clear hcz19_5
        try clear hcz19_6
        try clear hcz19_7
        try clear hcz19_8
        try clear hcz24_0
        try clear hcz24_1
        try clear hcz24_2
        try clear hcz24_3
        try clear hcz30_0
        try clear hcz30_1
        try clear hcz30_2
        try clear hcz30_3
        try clear hcz31_0
        try clear hcz31_1
        try clear hcz31_2
        try clear hcz31_3
        try clear hfz15_0
        try clear hfz15_1
        try clear hfz15_2
        try clear hfz19_0
        try clear hfz19_1
        try clear hfz19_2
        try clear hfz19_3
        try clear hfz19_4
        try clear hfz19_5
        try clear hfz19_6
        try clear hfz19_7
        try clear hfz19_8
        try clear hfz24_0
        try clear hfz24_1
        try clear hfz24_2
        try clear hfz24_3
        try clear hfz30_0
        try clear hfz30_1
        try clear hfz30_2
        try clear hfz30_3
        try clear hfz31_0
        try clear hfz31_1
        try clear hfz31_2
        try clear hfz31_3
        obtain ⟨x11_1, x32_1, x178000_1, x178001_1, x178002_1, x178003_1, x179000_1, x179001_1, x179002_1, x179003_1, rfl, rfl, HA, HK1, BK152, BK163, BK168, HI177, HI178, HB⟩ := hrel
        cases gk with
        | zero => exact absurd HA.out (by simp [weighbridgelaw09_CellShift.l0])
        | succ k1 =>
          have H := HA.out
          clear HA
          simp only [weighbridgelaw09_CellShift.l0] at H
          by_cases c32 : x32_1 < (l2.length : Int)
          · rw [if_pos c32] at H
            have c32b0 : decide (x32_1 < (l2.length : Int)) = true := decide_eq_true c32
            clear c32
            by_cases c33 : 0 ≤ x32_1
            · rw [if_pos c33] at H
              have c33b0 : decide (0 ≤ x32_1) = true := decide_eq_true c33
              clear c33
              by_cases c34 : x32_1 < (l2.length : Int)
              · rw [if_pos c34] at H
                have c34b0 : decide (x32_1 < (l2.length : Int)) = true := decide_eq_true c34
                clear c34
                replace H := Option.bind_eq_some_iff.mp H
                obtain ⟨t181, A350, H⟩ := H
                replace H : (if t156 = 0 then (none) else ((cell_Cell_Room.f k1 x178000_1 x178001_1 x178002_1 x178003_1 t164 t165 t166 t167 (wrap64 (x11_1 + t181))).bind fun t182 => ((cell_Cell_Room.f k1 x179000_1 x179001_1 x179002_1 x179003_1 t164 t165 t166 t167 (wrap64 ((wrap64 (x11_1 + t181)) + (Go.bits .and .i64 a1 1152921504606846975)))).bind fun t183 => (if t182 = t183 then ((cell_Cell_Wait.f x178000_1 x178001_1 x178002_1 x178003_1 t164 t165 t166 t167 (wrap64 (x11_1 + t181)) (wrap64 ((Int.tmod (Go.bits .and .i64 ((rd_T40 l2 x32_1).f1) 31) t156) + 1))).bind fun t184 => ((cell_Cell_Wait.f x179000_1 x179001_1 x179002_1 x179003_1 t164 t165 t166 t167 (wrap64 ((wrap64 (x11_1 + t181)) + (Go.bits .and .i64 a1 1152921504606846975))) (wrap64 ((Int.tmod (Go.bits .and .i64 ((rd_T40 l2 x32_1).f1) 31) t156) + 1))).bind fun t185 => (if t184 = t185 then ((cell_Cell_Take.f k1 x178000_1 x178001_1 x178002_1 x178003_1 t164 t165 t166 t167 (wrap64 (x11_1 + t181)) (wrap64 ((Int.tmod (Go.bits .and .i64 ((rd_T40 l2 x32_1).f1) 31) t156) + 1))).bind fun bt186 => ((cell_Cell_Take.f k1 x179000_1 x179001_1 x179002_1 x179003_1 t164 t165 t166 t167 (wrap64 ((wrap64 (x11_1 + t181)) + (Go.bits .and .i64 a1 1152921504606846975))) (wrap64 ((Int.tmod (Go.bits .and .i64 ((rd_T40 l2 x32_1).f1) 31) t156) + 1))).bind fun bt191 => (if (bt186.1 == bt191.1) = true then ((cell_Cell_Bound.f bt186.2.1 bt186.2.2.1 bt186.2.2.2.1 bt186.2.2.2.2 t164 t165 t166 t167 (wrap64 (x11_1 + t181))).bind fun t196 => ((cell_Cell_Bound.f bt191.2.1 bt191.2.2.1 bt191.2.2.2.1 bt191.2.2.2.2 t164 t165 t166 t167 (wrap64 ((wrap64 (x11_1 + t181)) + (Go.bits .and .i64 a1 1152921504606846975)))).bind fun t197 => (if t196 = t197 then ((cell_Cell_Idle.f bt186.2.1 bt186.2.2.1 bt186.2.2.2.1 bt186.2.2.2.2 t164 t165 t166 t167 (wrap64 (x11_1 + t181))).bind fun t198 => ((cell_Cell_Idle.f bt191.2.1 bt191.2.2.1 bt191.2.2.2.1 bt191.2.2.2.2 t164 t165 t166 t167 (wrap64 ((wrap64 (x11_1 + t181)) + (Go.bits .and .i64 a1 1152921504606846975)))).bind fun t199 => (if (t198 == t199) = true then (weighbridgelaw09_CellShift.l0 k1 (Go.bits .and .i64 a1 1152921504606846975) (wrap64 (x11_1 + t181)) l2 (l2.length : Int) (wrap64 (x32_1 + 1)) t154 t155 t156 t157 t158 t159 t160 t161 t162 t164 t165 t166 t167 bt186.2.1 bt186.2.2.1 bt186.2.2.2.1 bt186.2.2.2.2 bt191.2.1 bt191.2.2.1 bt191.2.2.2.1 bt191.2.2.2.2) else (some false)))) else (some false)))) else (some false)))) else (some false)))) else (some false))))) = some r := H
                have A35 := Aside0.mk A350
                clear A350
                by_cases c36 : t156 = 0
                · rw [if_pos c36] at H
                  exact absurd H (by simp)
                · rw [if_neg c36] at H
                  have c36b0 : (t156 == 0) = false := beq_eq_false_iff_ne.mpr c36
                  have c36b1 : (t156 != 0) = true := bne_iff_ne.mpr c36
                  replace H := Option.bind_eq_some_iff.mp H
                  obtain ⟨t182, A370, H⟩ := H
                  replace H : ((cell_Cell_Room.f k1 x179000_1 x179001_1 x179002_1 x179003_1 t164 t165 t166 t167 (wrap64 ((wrap64 (x11_1 + t181)) + (Go.bits .and .i64 a1 1152921504606846975)))).bind fun t183 => (if t182 = t183 then ((cell_Cell_Wait.f x178000_1 x178001_1 x178002_1 x178003_1 t164 t165 t166 t167 (wrap64 (x11_1 + t181)) (wrap64 ((Int.tmod (Go.bits .and .i64 ((rd_T40 l2 x32_1).f1) 31) t156) + 1))).bind fun t184 => ((cell_Cell_Wait.f x179000_1 x179001_1 x179002_1 x179003_1 t164 t165 t166 t167 (wrap64 ((wrap64 (x11_1 + t181)) + (Go.bits .and .i64 a1 1152921504606846975))) (wrap64 ((Int.tmod (Go.bits .and .i64 ((rd_T40 l2 x32_1).f1) 31) t156) + 1))).bind fun t185 => (if t184 = t185 then ((cell_Cell_Take.f k1 x178000_1 x178001_1 x178002_1 x178003_1 t164 t165 t166 t167 (wrap64 (x11_1 + t181)) (wrap64 ((Int.tmod (Go.bits .and .i64 ((rd_T40 l2 x32_1).f1) 31) t156) + 1))).bind fun bt186 => ((cell_Cell_Take.f k1 x179000_1 x179001_1 x179002_1 x179003_1 t164 t165 t166 t167 (wrap64 ((wrap64 (x11_1 + t181)) + (Go.bits .and .i64 a1 1152921504606846975))) (wrap64 ((Int.tmod (Go.bits .and .i64 ((rd_T40 l2 x32_1).f1) 31) t156) + 1))).bind fun bt191 => (if (bt186.1 == bt191.1) = true then ((cell_Cell_Bound.f bt186.2.1 bt186.2.2.1 bt186.2.2.2.1 bt186.2.2.2.2 t164 t165 t166 t167 (wrap64 (x11_1 + t181))).bind fun t196 => ((cell_Cell_Bound.f bt191.2.1 bt191.2.2.1 bt191.2.2.2.1 bt191.2.2.2.2 t164 t165 t166 t167 (wrap64 ((wrap64 (x11_1 + t181)) + (Go.bits .and .i64 a1 1152921504606846975)))).bind fun t197 => (if t196 = t197 then ((cell_Cell_Idle.f bt186.2.1 bt186.2.2.1 bt186.2.2.2.1 bt186.2.2.2.2 t164 t165 t166 t167 (wrap64 (x11_1 + t181))).bind fun t198 => ((cell_Cell_Idle.f bt191.2.1 bt191.2.2.1 bt191.2.2.2.1 bt191.2.2.2.2 t164 t165 t166 t167 (wrap64 ((wrap64 (x11_1 + t181)) + (Go.bits .and .i64 a1 1152921504606846975)))).bind fun t199 => (if (t198 == t199) = true then (weighbridgelaw09_CellShift.l0 k1 (Go.bits .and .i64 a1 1152921504606846975) (wrap64 (x11_1 + t181)) l2 (l2.length : Int) (wrap64 (x32_1 + 1)) t154 t155 t156 t157 t158 t159 t160 t161 t162 t164 t165 t166 t167 bt186.2.1 bt186.2.2.1 bt186.2.2.2.1 bt186.2.2.2.2 bt191.2.1 bt191.2.2.1 bt191.2.2.2.1 bt191.2.2.2.2) else (some false)))) else (some false)))) else (some false)))) else (some false)))) else (some false))) = some r := H
                  have A37 := Aside0.mk A370
                  clear A370
                  replace H := Option.bind_eq_some_iff.mp H
                  obtain ⟨t183, A380, H⟩ := H
                  replace H : (if t182 = t183 then ((cell_Cell_Wait.f x178000_1 x178001_1 x178002_1 x178003_1 t164 t165 t166 t167 (wrap64 (x11_1 + t181)) (wrap64 ((Int.tmod (Go.bits .and .i64 ((rd_T40 l2 x32_1).f1) 31) t156) + 1))).bind fun t184 => ((cell_Cell_Wait.f x179000_1 x179001_1 x179002_1 x179003_1 t164 t165 t166 t167 (wrap64 ((wrap64 (x11_1 + t181)) + (Go.bits .and .i64 a1 1152921504606846975))) (wrap64 ((Int.tmod (Go.bits .and .i64 ((rd_T40 l2 x32_1).f1) 31) t156) + 1))).bind fun t185 => (if t184 = t185 then ((cell_Cell_Take.f k1 x178000_1 x178001_1 x178002_1 x178003_1 t164 t165 t166 t167 (wrap64 (x11_1 + t181)) (wrap64 ((Int.tmod (Go.bits .and .i64 ((rd_T40 l2 x32_1).f1) 31) t156) + 1))).bind fun bt186 => ((cell_Cell_Take.f k1 x179000_1 x179001_1 x179002_1 x179003_1 t164 t165 t166 t167 (wrap64 ((wrap64 (x11_1 + t181)) + (Go.bits .and .i64 a1 1152921504606846975))) (wrap64 ((Int.tmod (Go.bits .and .i64 ((rd_T40 l2 x32_1).f1) 31) t156) + 1))).bind fun bt191 => (if (bt186.1 == bt191.1) = true then ((cell_Cell_Bound.f bt186.2.1 bt186.2.2.1 bt186.2.2.2.1 bt186.2.2.2.2 t164 t165 t166 t167 (wrap64 (x11_1 + t181))).bind fun t196 => ((cell_Cell_Bound.f bt191.2.1 bt191.2.2.1 bt191.2.2.2.1 bt191.2.2.2.2 t164 t165 t166 t167 (wrap64 ((wrap64 (x11_1 + t181)) + (Go.bits .and .i64 a1 1152921504606846975)))).bind fun t197 => (if t196 = t197 then ((cell_Cell_Idle.f bt186.2.1 bt186.2.2.1 bt186.2.2.2.1 bt186.2.2.2.2 t164 t165 t166 t167 (wrap64 (x11_1 + t181))).bind fun t198 => ((cell_Cell_Idle.f bt191.2.1 bt191.2.2.1 bt191.2.2.2.1 bt191.2.2.2.2 t164 t165 t166 t167 (wrap64 ((wrap64 (x11_1 + t181)) + (Go.bits .and .i64 a1 1152921504606846975)))).bind fun t199 => (if (t198 == t199) = true then (weighbridgelaw09_CellShift.l0 k1 (Go.bits .and .i64 a1 1152921504606846975) (wrap64 (x11_1 + t181)) l2 (l2.length : Int) (wrap64 (x32_1 + 1)) t154 t155 t156 t157 t158 t159 t160 t161 t162 t164 t165 t166 t167 bt186.2.1 bt186.2.2.1 bt186.2.2.2.1 bt186.2.2.2.2 bt191.2.1 bt191.2.2.1 bt191.2.2.2.1 bt191.2.2.2.2) else (some false)))) else (some false)))) else (some false)))) else (some false)))) else (some false)) = some r := H
                  have A38 := Aside0.mk A380
                  clear A380
                  by_cases c39 : t182 = t183
                  · rw [if_pos c39] at H
                    have c39b0 : (t182 == t183) = true := beq_iff_eq.mpr c39
                    have c39b1 : (t182 != t183) = false := bne_eq_false_iff_eq.mpr c39
                    clear c39
                    replace H := Option.bind_eq_some_iff.mp H
                    obtain ⟨t184, A400, H⟩ := H
                    replace H : ((cell_Cell_Wait.f x179000_1 x179001_1 x179002_1 x179003_1 t164 t165 t166 t167 (wrap64 ((wrap64 (x11_1 + t181)) + (Go.bits .and .i64 a1 1152921504606846975))) (wrap64 ((Int.tmod (Go.bits .and .i64 ((rd_T40 l2 x32_1).f1) 31) t156) + 1))).bind fun t185 => (if t184 = t185 then ((cell_Cell_Take.f k1 x178000_1 x178001_1 x178002_1 x178003_1 t164 t165 t166 t167 (wrap64 (x11_1 + t181)) (wrap64 ((Int.tmod (Go.bits .and .i64 ((rd_T40 l2 x32_1).f1) 31) t156) + 1))).bind fun bt186 => ((cell_Cell_Take.f k1 x179000_1 x179001_1 x179002_1 x179003_1 t164 t165 t166 t167 (wrap64 ((wrap64 (x11_1 + t181)) + (Go.bits .and .i64 a1 1152921504606846975))) (wrap64 ((Int.tmod (Go.bits .and .i64 ((rd_T40 l2 x32_1).f1) 31) t156) + 1))).bind fun bt191 => (if (bt186.1 == bt191.1) = true then ((cell_Cell_Bound.f bt186.2.1 bt186.2.2.1 bt186.2.2.2.1 bt186.2.2.2.2 t164 t165 t166 t167 (wrap64 (x11_1 + t181))).bind fun t196 => ((cell_Cell_Bound.f bt191.2.1 bt191.2.2.1 bt191.2.2.2.1 bt191.2.2.2.2 t164 t165 t166 t167 (wrap64 ((wrap64 (x11_1 + t181)) + (Go.bits .and .i64 a1 1152921504606846975)))).bind fun t197 => (if t196 = t197 then ((cell_Cell_Idle.f bt186.2.1 bt186.2.2.1 bt186.2.2.2.1 bt186.2.2.2.2 t164 t165 t166 t167 (wrap64 (x11_1 + t181))).bind fun t198 => ((cell_Cell_Idle.f bt191.2.1 bt191.2.2.1 bt191.2.2.2.1 bt191.2.2.2.2 t164 t165 t166 t167 (wrap64 ((wrap64 (x11_1 + t181)) + (Go.bits .and .i64 a1 1152921504606846975)))).bind fun t199 => (if (t198 == t199) = true then (weighbridgelaw09_CellShift.l0 k1 (Go.bits .and .i64 a1 1152921504606846975) (wrap64 (x11_1 + t181)) l2 (l2.length : Int) (wrap64 (x32_1 + 1)) t154 t155 t156 t157 t158 t159 t160 t161 t162 t164 t165 t166 t167 bt186.2.1 bt186.2.2.1 bt186.2.2.2.1 bt186.2.2.2.2 bt191.2.1 bt191.2.2.1 bt191.2.2.2.1 bt191.2.2.2.2) else (some false)))) else (some false)))) else (some false)))) else (some false))) = some r := H
                    have A40 := Aside0.mk A400
                    clear A400
                    replace H := Option.bind_eq_some_iff.mp H
                    obtain ⟨t185, A410, H⟩ := H
                    replace H : (if t184 = t185 then ((cell_Cell_Take.f k1 x178000_1 x178001_1 x178002_1 x178003_1 t164 t165 t166 t167 (wrap64 (x11_1 + t181)) (wrap64 ((Int.tmod (Go.bits .and .i64 ((rd_T40 l2 x32_1).f1) 31) t156) + 1))).bind fun bt186 => ((cell_Cell_Take.f k1 x179000_1 x179001_1 x179002_1 x179003_1 t164 t165 t166 t167 (wrap64 ((wrap64 (x11_1 + t181)) + (Go.bits .and .i64 a1 1152921504606846975))) (wrap64 ((Int.tmod (Go.bits .and .i64 ((rd_T40 l2 x32_1).f1) 31) t156) + 1))).bind fun bt191 => (if (bt186.1 == bt191.1) = true then ((cell_Cell_Bound.f bt186.2.1 bt186.2.2.1 bt186.2.2.2.1 bt186.2.2.2.2 t164 t165 t166 t167 (wrap64 (x11_1 + t181))).bind fun t196 => ((cell_Cell_Bound.f bt191.2.1 bt191.2.2.1 bt191.2.2.2.1 bt191.2.2.2.2 t164 t165 t166 t167 (wrap64 ((wrap64 (x11_1 + t181)) + (Go.bits .and .i64 a1 1152921504606846975)))).bind fun t197 => (if t196 = t197 then ((cell_Cell_Idle.f bt186.2.1 bt186.2.2.1 bt186.2.2.2.1 bt186.2.2.2.2 t164 t165 t166 t167 (wrap64 (x11_1 + t181))).bind fun t198 => ((cell_Cell_Idle.f bt191.2.1 bt191.2.2.1 bt191.2.2.2.1 bt191.2.2.2.2 t164 t165 t166 t167 (wrap64 ((wrap64 (x11_1 + t181)) + (Go.bits .and .i64 a1 1152921504606846975)))).bind fun t199 => (if (t198 == t199) = true then (weighbridgelaw09_CellShift.l0 k1 (Go.bits .and .i64 a1 1152921504606846975) (wrap64 (x11_1 + t181)) l2 (l2.length : Int) (wrap64 (x32_1 + 1)) t154 t155 t156 t157 t158 t159 t160 t161 t162 t164 t165 t166 t167 bt186.2.1 bt186.2.2.1 bt186.2.2.2.1 bt186.2.2.2.2 bt191.2.1 bt191.2.2.1 bt191.2.2.2.1 bt191.2.2.2.2) else (some false)))) else (some false)))) else (some false)))) else (some false)) = some r := H
                    have A41 := Aside0.mk A410
                    clear A410
                    by_cases c42 : t184 = t185
                    · rw [if_pos c42] at H
                      have c42b0 : (t184 == t185) = true := beq_iff_eq.mpr c42
                      have c42b1 : (t184 != t185) = false := bne_eq_false_iff_eq.mpr c42
                      clear c42
                      replace H := Option.bind_eq_some_iff.mp H
                      obtain ⟨⟨t186, t187, t188, t189, t190⟩, A430, H⟩ := H
                      replace H : ((cell_Cell_Take.f k1 x179000_1 x179001_1 x179002_1 x179003_1 t164 t165 t166 t167 (wrap64 ((wrap64 (x11_1 + t181)) + (Go.bits .and .i64 a1 1152921504606846975))) (wrap64 ((Int.tmod (Go.bits .and .i64 ((rd_T40 l2 x32_1).f1) 31) t156) + 1))).bind fun bt191 => (if (t186 == bt191.1) = true then ((cell_Cell_Bound.f t187 t188 t189 t190 t164 t165 t166 t167 (wrap64 (x11_1 + t181))).bind fun t196 => ((cell_Cell_Bound.f bt191.2.1 bt191.2.2.1 bt191.2.2.2.1 bt191.2.2.2.2 t164 t165 t166 t167 (wrap64 ((wrap64 (x11_1 + t181)) + (Go.bits .and .i64 a1 1152921504606846975)))).bind fun t197 => (if t196 = t197 then ((cell_Cell_Idle.f t187 t188 t189 t190 t164 t165 t166 t167 (wrap64 (x11_1 + t181))).bind fun t198 => ((cell_Cell_Idle.f bt191.2.1 bt191.2.2.1 bt191.2.2.2.1 bt191.2.2.2.2 t164 t165 t166 t167 (wrap64 ((wrap64 (x11_1 + t181)) + (Go.bits .and .i64 a1 1152921504606846975)))).bind fun t199 => (if (t198 == t199) = true then (weighbridgelaw09_CellShift.l0 k1 (Go.bits .and .i64 a1 1152921504606846975) (wrap64 (x11_1 + t181)) l2 (l2.length : Int) (wrap64 (x32_1 + 1)) t154 t155 t156 t157 t158 t159 t160 t161 t162 t164 t165 t166 t167 t187 t188 t189 t190 bt191.2.1 bt191.2.2.1 bt191.2.2.2.1 bt191.2.2.2.2) else (some false)))) else (some false)))) else (some false))) = some r := H
                      have A43 := Aside0.mk A430
                      clear A430
                      replace H := Option.bind_eq_some_iff.mp H
                      obtain ⟨⟨t191, t192, t193, t194, t195⟩, A440, H⟩ := H
                      replace H : (if (t186 == t191) = true then ((cell_Cell_Bound.f t187 t188 t189 t190 t164 t165 t166 t167 (wrap64 (x11_1 + t181))).bind fun t196 => ((cell_Cell_Bound.f t192 t193 t194 t195 t164 t165 t166 t167 (wrap64 ((wrap64 (x11_1 + t181)) + (Go.bits .and .i64 a1 1152921504606846975)))).bind fun t197 => (if t196 = t197 then ((cell_Cell_Idle.f t187 t188 t189 t190 t164 t165 t166 t167 (wrap64 (x11_1 + t181))).bind fun t198 => ((cell_Cell_Idle.f t192 t193 t194 t195 t164 t165 t166 t167 (wrap64 ((wrap64 (x11_1 + t181)) + (Go.bits .and .i64 a1 1152921504606846975)))).bind fun t199 => (if (t198 == t199) = true then (weighbridgelaw09_CellShift.l0 k1 (Go.bits .and .i64 a1 1152921504606846975) (wrap64 (x11_1 + t181)) l2 (l2.length : Int) (wrap64 (x32_1 + 1)) t154 t155 t156 t157 t158 t159 t160 t161 t162 t164 t165 t166 t167 t187 t188 t189 t190 t192 t193 t194 t195) else (some false)))) else (some false)))) else (some false)) = some r := H
                      have A44 := Aside0.mk A440
                      clear A440
                      by_cases c45 : (t186 == t191) = true
                      · rw [if_pos c45] at H
                        have c45b0 : (t186 == t191) = true := c45
                        (try (have c45b1 : decide (t186 = t191) = true := by simpa using c45))
                        (try (have c45b2 : (t186 == t191) = true := by simpa using c45))
                        clear c45
                        replace H := Option.bind_eq_some_iff.mp H
                        obtain ⟨t196, A460, H⟩ := H
                        replace H : ((cell_Cell_Bound.f t192 t193 t194 t195 t164 t165 t166 t167 (wrap64 ((wrap64 (x11_1 + t181)) + (Go.bits .and .i64 a1 1152921504606846975)))).bind fun t197 => (if t196 = t197 then ((cell_Cell_Idle.f t187 t188 t189 t190 t164 t165 t166 t167 (wrap64 (x11_1 + t181))).bind fun t198 => ((cell_Cell_Idle.f t192 t193 t194 t195 t164 t165 t166 t167 (wrap64 ((wrap64 (x11_1 + t181)) + (Go.bits .and .i64 a1 1152921504606846975)))).bind fun t199 => (if (t198 == t199) = true then (weighbridgelaw09_CellShift.l0 k1 (Go.bits .and .i64 a1 1152921504606846975) (wrap64 (x11_1 + t181)) l2 (l2.length : Int) (wrap64 (x32_1 + 1)) t154 t155 t156 t157 t158 t159 t160 t161 t162 t164 t165 t166 t167 t187 t188 t189 t190 t192 t193 t194 t195) else (some false)))) else (some false))) = some r := H
                        have A46 := Aside0.mk A460
                        clear A460
                        replace H := Option.bind_eq_some_iff.mp H
                        obtain ⟨t197, A470, H⟩ := H
                        replace H : (if t196 = t197 then ((cell_Cell_Idle.f t187 t188 t189 t190 t164 t165 t166 t167 (wrap64 (x11_1 + t181))).bind fun t198 => ((cell_Cell_Idle.f t192 t193 t194 t195 t164 t165 t166 t167 (wrap64 ((wrap64 (x11_1 + t181)) + (Go.bits .and .i64 a1 1152921504606846975)))).bind fun t199 => (if (t198 == t199) = true then (weighbridgelaw09_CellShift.l0 k1 (Go.bits .and .i64 a1 1152921504606846975) (wrap64 (x11_1 + t181)) l2 (l2.length : Int) (wrap64 (x32_1 + 1)) t154 t155 t156 t157 t158 t159 t160 t161 t162 t164 t165 t166 t167 t187 t188 t189 t190 t192 t193 t194 t195) else (some false)))) else (some false)) = some r := H
                        have A47 := Aside0.mk A470
                        clear A470
                        by_cases c48 : t196 = t197
                        · rw [if_pos c48] at H
                          have c48b0 : (t196 == t197) = true := beq_iff_eq.mpr c48
                          have c48b1 : (t196 != t197) = false := bne_eq_false_iff_eq.mpr c48
                          clear c48
                          replace H := Option.bind_eq_some_iff.mp H
                          obtain ⟨t198, A490, H⟩ := H
                          replace H : ((cell_Cell_Idle.f t192 t193 t194 t195 t164 t165 t166 t167 (wrap64 ((wrap64 (x11_1 + t181)) + (Go.bits .and .i64 a1 1152921504606846975)))).bind fun t199 => (if (t198 == t199) = true then (weighbridgelaw09_CellShift.l0 k1 (Go.bits .and .i64 a1 1152921504606846975) (wrap64 (x11_1 + t181)) l2 (l2.length : Int) (wrap64 (x32_1 + 1)) t154 t155 t156 t157 t158 t159 t160 t161 t162 t164 t165 t166 t167 t187 t188 t189 t190 t192 t193 t194 t195) else (some false))) = some r := H
                          have A49 := Aside0.mk A490
                          clear A490
                          replace H := Option.bind_eq_some_iff.mp H
                          obtain ⟨t199, A500, H⟩ := H
                          replace H : (if (t198 == t199) = true then (weighbridgelaw09_CellShift.l0 k1 (Go.bits .and .i64 a1 1152921504606846975) (wrap64 (x11_1 + t181)) l2 (l2.length : Int) (wrap64 (x32_1 + 1)) t154 t155 t156 t157 t158 t159 t160 t161 t162 t164 t165 t166 t167 t187 t188 t189 t190 t192 t193 t194 t195) else (some false)) = some r := H
                          have A50 := Aside0.mk A500
                          clear A500
                          by_cases c51 : (t198 == t199) = true
                          · rw [if_pos c51] at H
                            have c51b0 : (t198 == t199) = true := c51
                            (try (have c51b1 : decide (t198 = t199) = true := by simpa using c51))
                            (try (have c51b2 : (t198 == t199) = true := by simpa using c51))
                            clear c51
                            have H' := Aside0.mk H
                            clear H
                            have p179 : 0 ≤ (x32_1 : Int) := of_decide_eq_true (by first | (with_reducible assumption) | assumption)
                            have q179 : x32_1 < (l2.length : Int) := of_decide_eq_true (by first | (with_reducible assumption) | assumption)
                            obtain ⟨ad179, e179, hx179_0, hx179_1⟩ := at_T40 HR2.out x32_1 p179 q179
                            cases e179
                            replace hx179_0 := (HB.out.cell (World.block_lt_of_cell? w _ hx179_0)).trans hx179_0
                            replace hx179_1 := (HB.out.cell (World.block_lt_of_cell? w _ hx179_1)).trans hx179_1
                            replace p179 := eq_true p179
                            replace q179 := eq_true q179
                            try go_wp2_with (first | ((with_reducible refine gate_dst (N := 13) rfl ?_); refine box_event ?hg (N := 13) ?hd (cs := #[.int .i64 0, .int .i64 0]) (t := 40) ?hr ?_; (case hd => rfl); (case hg => rfl); (case hr => first | (go_simp; done) | (go_simp; rfl)); intro gb180 hg w52 hbox hb; have n0_ := Aside0.mk (blk_below (g := gb152) (o := .cells #[.int .i64 a0_0, .int .i64 a0_1, .int .i64 a0_2] 23 (0, 0)) (by (with_reducible repeat (first | refine blk_drewN ?_ _ | refine blk_drew ?_ | refine blk_alloc ?_ _)); exact BK152.out) hb); have n1_ := Aside0.mk (blk_below (g := gb163) (o := .cells #[.int .i64 t154, .int .i64 t155, .int .i64 t156, .int .i64 t157, .int .i64 t158, .int .i64 t159, .int .i64 t160, .int .i64 t161, .bool t162] 28 (0, 0)) (by (with_reducible repeat (first | refine blk_drewN ?_ _ | refine blk_drew ?_ | refine blk_alloc ?_ _)); exact BK163.out) hb); have n2_ := Aside0.mk (blk_below (g := gb168) (o := .cells #[.int .i64 t164, .int .i64 t165, .int .i64 t166, .int .i64 t167] 31 (0, 0)) (by (with_reducible repeat (first | refine blk_drewN ?_ _ | refine blk_drew ?_ | refine blk_alloc ?_ _)); exact BK168.out) hb); have n3_ := Aside0.mk (IsS36.below (by repeat (first | (with_reducible first | exact HI177.out | apply IsS36.alloc | apply IsS36.drewN | apply IsS36.drew | apply IsS36.set_0 | apply IsS36.set_1 | apply IsS36.set_2 | apply IsS36.set_3 | refine IsS36.far ?_ NB177_152.out _ | refine IsS36.far ?_ NB177_163.out _ | refine IsS36.far ?_ NB177_168.out _ | refine IsS36.far ?_ NB177_178.out _) | exact HI177.out)) hb); have n4_ := Aside0.mk (IsS36.below (by repeat (first | (with_reducible first | exact HI178.out | apply IsS36.alloc | apply IsS36.drewN | apply IsS36.drew | apply IsS36.set_0 | apply IsS36.set_1 | apply IsS36.set_2 | apply IsS36.set_3 | refine IsS36.far ?_ NB178_152.out _ | refine IsS36.far ?_ NB178_163.out _ | refine IsS36.far ?_ NB178_168.out _ | refine IsS36.far ?_ NB178_177.out _) | exact HI178.out)) hb); have n5_ := Aside0.mk (below_step (by repeat (first | (with_reducible first | exact HB.out | apply below_alloc | apply pw_below_drewN | apply below_drew1 | refine below_set ?_ (IsS36.ge HI177.out) | refine below_set ?_ (IsS36.ge HI178.out) | refine below_set ?_ GE152.out | refine below_set ?_ GE163.out | refine below_set ?_ GE168.out) | exact HB.out)) hb); have n6_ := Aside0.mk (hbox); have n7_ := Aside0.mk ((by rw [hg]; exact (below_size (by repeat (first | (with_reducible first | exact HB.out | apply below_alloc | apply pw_below_drewN | apply below_drew1 | refine below_set ?_ (IsS36.ge HI177.out) | refine below_set ?_ (IsS36.ge HI178.out) | refine below_set ?_ GE152.out | refine below_set ?_ GE163.out | refine below_set ?_ GE168.out) | exact HB.out))) : w.heap.size ≤ gb180)); have n8_ := Aside0.mk ((by rw [hg]; exact (below_size (by repeat (first | (with_reducible first | exact HB.out | apply below_alloc | apply pw_below_drewN | apply below_drew1 | refine below_set ?_ (IsS36.ge HI177.out) | refine below_set ?_ (IsS36.ge HI178.out) | refine below_set ?_ GE152.out | refine below_set ?_ GE163.out | refine below_set ?_ GE168.out) | exact HB.out))) : w.heap.size ≤ gb180)); have n9_ := Aside0.mk ((by rw [hg]; exact Nat.ne_of_lt (blk_lt (g := gb152) (o := .cells #[.int .i64 a0_0, .int .i64 a0_1, .int .i64 a0_2] 23 (0, 0)) (by (with_reducible repeat (first | refine blk_drewN ?_ _ | refine blk_drew ?_ | refine blk_alloc ?_ _)); exact BK152.out)) : gb152 ≠ gb180)); have n10_ := Aside0.mk ((by rw [hg]; exact Nat.ne_of_gt (blk_lt (g := gb152) (o := .cells #[.int .i64 a0_0, .int .i64 a0_1, .int .i64 a0_2] 23 (0, 0)) (by (with_reducible repeat (first | refine blk_drewN ?_ _ | refine blk_drew ?_ | refine blk_alloc ?_ _)); exact BK152.out)) : gb180 ≠ gb152)); have n11_ := Aside0.mk ((by rw [hg]; exact Nat.ne_of_lt (blk_lt (g := gb163) (o := .cells #[.int .i64 t154, .int .i64 t155, .int .i64 t156, .int .i64 t157, .int .i64 t158, .int .i64 t159, .int .i64 t160, .int .i64 t161, .bool t162] 28 (0, 0)) (by (with_reducible repeat (first | refine blk_drewN ?_ _ | refine blk_drew ?_ | refine blk_alloc ?_ _)); exact BK163.out)) : gb163 ≠ gb180)); have n12_ := Aside0.mk ((by rw [hg]; exact Nat.ne_of_gt (blk_lt (g := gb163) (o := .cells #[.int .i64 t154, .int .i64 t155, .int .i64 t156, .int .i64 t157, .int .i64 t158, .int .i64 t159, .int .i64 t160, .int .i64 t161, .bool t162] 28 (0, 0)) (by (with_reducible repeat (first | refine blk_drewN ?_ _ | refine blk_drew ?_ | refine blk_alloc ?_ _)); exact BK163.out)) : gb180 ≠ gb163)); have n13_ := Aside0.mk ((by rw [hg]; exact Nat.ne_of_lt (blk_lt (g := gb168) (o := .cells #[.int .i64 t164, .int .i64 t165, .int .i64 t166, .int .i64 t167] 31 (0, 0)) (by (with_reducible repeat (first | refine blk_drewN ?_ _ | refine blk_drew ?_ | refine blk_alloc ?_ _)); exact BK168.out)) : gb168 ≠ gb180)); have n14_ := Aside0.mk ((by rw [hg]; exact Nat.ne_of_gt (blk_lt (g := gb168) (o := .cells #[.int .i64 t164, .int .i64 t165, .int .i64 t166, .int .i64 t167] 31 (0, 0)) (by (with_reducible repeat (first | refine blk_drewN ?_ _ | refine blk_drew ?_ | refine blk_alloc ?_ _)); exact BK168.out)) : gb180 ≠ gb168)); have n15_ := Aside0.mk ((by rw [hg]; exact Nat.ne_of_lt (IsS36.lt (show IsS36 w _ gb177 x178000_1 x178001_1 x178002_1 x178003_1 from by repeat (first | (with_reducible first | exact HI177.out | apply IsS36.alloc | apply IsS36.drewN | apply IsS36.drew | apply IsS36.set_0 | apply IsS36.set_1 | apply IsS36.set_2 | apply IsS36.set_3 | refine IsS36.far ?_ NB177_152.out _ | refine IsS36.far ?_ NB177_163.out _ | refine IsS36.far ?_ NB177_168.out _ | refine IsS36.far ?_ NB177_178.out _) | exact HI177.out))) : gb177 ≠ gb180)); have n16_ := Aside0.mk ((by rw [hg]; exact Nat.ne_of_gt (IsS36.lt (show IsS36 w _ gb177 x178000_1 x178001_1 x178002_1 x178003_1 from by repeat (first | (with_reducible first | exact HI177.out | apply IsS36.alloc | apply IsS36.drewN | apply IsS36.drew | apply IsS36.set_0 | apply IsS36.set_1 | apply IsS36.set_2 | apply IsS36.set_3 | refine IsS36.far ?_ NB177_152.out _ | refine IsS36.far ?_ NB177_163.out _ | refine IsS36.far ?_ NB177_168.out _ | refine IsS36.far ?_ NB177_178.out _) | exact HI177.out))) : gb180 ≠ gb177)); have n17_ := Aside0.mk ((by rw [hg]; exact Nat.ne_of_lt (IsS36.lt (show IsS36 w _ gb178 x179000_1 x179001_1 x179002_1 x179003_1 from by repeat (first | (with_reducible first | exact HI178.out | apply IsS36.alloc | apply IsS36.drewN | apply IsS36.drew | apply IsS36.set_0 | apply IsS36.set_1 | apply IsS36.set_2 | apply IsS36.set_3 | refine IsS36.far ?_ NB178_152.out _ | refine IsS36.far ?_ NB178_163.out _ | refine IsS36.far ?_ NB178_168.out _ | refine IsS36.far ?_ NB178_177.out _) | exact HI178.out))) : gb178 ≠ gb180)); have n18_ := Aside0.mk ((by rw [hg]; exact Nat.ne_of_gt (IsS36.lt (show IsS36 w _ gb178 x179000_1 x179001_1 x179002_1 x179003_1 from by repeat (first | (with_reducible first | exact HI178.out | apply IsS36.alloc | apply IsS36.drewN | apply IsS36.drew | apply IsS36.set_0 | apply IsS36.set_1 | apply IsS36.set_2 | apply IsS36.set_3 | refine IsS36.far ?_ NB178_152.out _ | refine IsS36.far ?_ NB178_163.out _ | refine IsS36.far ?_ NB178_168.out _ | refine IsS36.far ?_ NB178_177.out _) | exact HI178.out))) : gb180 ≠ gb178)); clear BK152; clear BK163; clear BK168; clear HI177; clear HI178; clear HB; have BK152 := n0_; have BK163 := n1_; have BK168 := n2_; have HI177 := n3_; have HI178 := n4_; have HB := n5_; have BK180 := n6_; have GW180 := n7_; have GE180 := n8_; have NB152_180 := n9_; have NB180_152 := n10_; have NB163_180 := n11_; have NB180_163 := n12_; have NB168_180 := n13_; have NB180_168 := n14_; have NB177_180 := n15_; have NB180_177 := n16_; have NB178_180 := n17_; have NB180_178 := n18_; clear n0_ n1_ n2_ n3_ n4_ n5_ n6_ n7_ n8_ n9_ n10_ n11_ n12_ n13_ n14_ n15_ n16_ n17_ n18_; clear hb hbox hg; have hnb53 := NB180_152.out; have hnc53 := NB152_180.out; have hnb54 := NB180_163.out; have hnc54 := NB163_180.out; have hnb55 := NB180_168.out; have hnc55 := NB168_180.out; have hnb56 := NB180_177.out; have hnc56 := NB177_180.out; have hnb57 := NB180_178.out; have hnc57 := NB178_180.out; have hcz58_0 : w52.cell? ⟨gb180, 0, none⟩ = some (.int .i64 0) := (blk_cell BK180.out 0).trans rfl; have hcz58_1 : w52.cell? ⟨gb180, 1, none⟩ = some (.int .i64 0) := (blk_cell BK180.out 1).trans rfl; have hfz58_0 := blk_frozen BK180.out 0; have hfz58_1 := blk_frozen BK180.out 1) | ((with_reducible refine gate_callee (f := 16) rfl ?_); refine goesL_ (some 39) rfl rfl Try.func16 (by kernel_rfl) rfl #[.int .i64 ((rd_T40 l2 x32_1).f0)] rfl (by (try simp only [List.map_toArray, List.map_cons, List.map_nil]); first | done | rfl | (simp only [List.length_drop, List.length_take]; rfl)) ?_; (with_reducible refine (weighbridgelaw09_gap.calls ((rd_T40 l2 x32_1).f0) t181 _ A35.out).mono ?_); rintro e w' ⟨rfl, ⟨nd, rfl⟩⟩; refine ⟨_, rfl, ?_⟩; have hnb59 := NB163_152.out; have hnc59 := NB152_163.out; have hnb60 := NB163_168.out; have hnc60 := NB168_163.out; have hnb61 := NB163_177.out; have hnc61 := NB177_163.out; have hnb62 := NB163_178.out; have hnc62 := NB178_163.out; have hcz63_0 : w52.cell? ⟨gb163, 0, none⟩ = some (.int .i64 t154) := (blk_cell BK163.out 0).trans rfl; have hcz63_1 : w52.cell? ⟨gb163, 1, none⟩ = some (.int .i64 t155) := (blk_cell BK163.out 1).trans rfl; have hcz63_2 : w52.cell? ⟨gb163, 2, none⟩ = some (.int .i64 t156) := (blk_cell BK163.out 2).trans rfl; have hcz63_3 : w52.cell? ⟨gb163, 3, none⟩ = some (.int .i64 t157) := (blk_cell BK163.out 3).trans rfl; have hcz63_4 : w52.cell? ⟨gb163, 4, none⟩ = some (.int .i64 t158) := (blk_cell BK163.out 4).trans rfl; have hcz63_5 : w52.cell? ⟨gb163, 5, none⟩ = some (.int .i64 t159) := (blk_cell BK163.out 5).trans rfl; have hcz63_6 : w52.cell? ⟨gb163, 6, none⟩ = some (.int .i64 t160) := (blk_cell BK163.out 6).trans rfl; have hcz63_7 : w52.cell? ⟨gb163, 7, none⟩ = some (.int .i64 t161) := (blk_cell BK163.out 7).trans rfl; have hcz63_8 : w52.cell? ⟨gb163, 8, none⟩ = some (.bool t162) := (blk_cell BK163.out 8).trans rfl; have hfz63_0 := blk_frozen BK163.out 0; have hfz63_1 := blk_frozen BK163.out 1; have hfz63_2 := blk_frozen BK163.out 2; have hfz63_3 := blk_frozen BK163.out 3; have hfz63_4 := blk_frozen BK163.out 4; have hfz63_5 := blk_frozen BK163.out 5; have hfz63_6 := blk_frozen BK163.out 6; have hfz63_7 := blk_frozen BK163.out 7; have hfz63_8 := blk_frozen BK163.out 8))
                            have n0_ : Aside0 (((w52.setCell ⟨gb180, 0, none⟩ (.int .i64 ((rd_T40 l2 x32_1).f0))).setCell ⟨gb180, 1, none⟩ (.int .i64 ((rd_T40 l2 x32_1).f1))).heap[gb152]? = some (.cells #[.int .i64 a0_0, .int .i64 a0_1, .int .i64 a0_2] 23 (0, 0))) := ⟨by (with_reducible repeat (first | refine blk_drewN ?_ _ | refine blk_drew ?_ | refine blk_alloc ?_ _)); refine blk_far ?_ NB152_180.out _; (with_reducible repeat (first | refine blk_drewN ?_ _ | refine blk_drew ?_ | refine blk_alloc ?_ _)); refine blk_far ?_ NB152_180.out _; (with_reducible repeat (first | refine blk_drewN ?_ _ | refine blk_drew ?_ | refine blk_alloc ?_ _)); exact BK152.out⟩
                            have n1_ : Aside0 (((w52.setCell ⟨gb180, 0, none⟩ (.int .i64 ((rd_T40 l2 x32_1).f0))).setCell ⟨gb180, 1, none⟩ (.int .i64 ((rd_T40 l2 x32_1).f1))).heap[gb163]? = some (.cells #[.int .i64 t154, .int .i64 t155, .int .i64 t156, .int .i64 t157, .int .i64 t158, .int .i64 t159, .int .i64 t160, .int .i64 t161, .bool t162] 28 (0, 0))) := ⟨by (with_reducible repeat (first | refine blk_drewN ?_ _ | refine blk_drew ?_ | refine blk_alloc ?_ _)); refine blk_far ?_ NB163_180.out _; (with_reducible repeat (first | refine blk_drewN ?_ _ | refine blk_drew ?_ | refine blk_alloc ?_ _)); refine blk_far ?_ NB163_180.out _; (with_reducible repeat (first | refine blk_drewN ?_ _ | refine blk_drew ?_ | refine blk_alloc ?_ _)); exact BK163.out⟩
                            have n2_ : Aside0 (((w52.setCell ⟨gb180, 0, none⟩ (.int .i64 ((rd_T40 l2 x32_1).f0))).setCell ⟨gb180, 1, none⟩ (.int .i64 ((rd_T40 l2 x32_1).f1))).heap[gb168]? = some (.cells #[.int .i64 t164, .int .i64 t165, .int .i64 t166, .int .i64 t167] 31 (0, 0))) := ⟨by (with_reducible repeat (first | refine blk_drewN ?_ _ | refine blk_drew ?_ | refine blk_alloc ?_ _)); refine blk_far ?_ NB168_180.out _; (with_reducible repeat (first | refine blk_drewN ?_ _ | refine blk_drew ?_ | refine blk_alloc ?_ _)); refine blk_far ?_ NB168_180.out _; (with_reducible repeat (first | refine blk_drewN ?_ _ | refine blk_drew ?_ | refine blk_alloc ?_ _)); exact BK168.out⟩
                            have n3_ : Aside0 (((w52.setCell ⟨gb180, 0, none⟩ (.int .i64 ((rd_T40 l2 x32_1).f0))).setCell ⟨gb180, 1, none⟩ (.int .i64 ((rd_T40 l2 x32_1).f1))).heap[gb180]? = some (.cells #[.int .i64 ((rd_T40 l2 x32_1).f0), .int .i64 ((rd_T40 l2 x32_1).f1)] 40 (0, 0))) := ⟨by (with_reducible repeat (first | refine blk_drewN ?_ _ | refine blk_drew ?_ | refine blk_alloc ?_ _)); refine blk_put (cs := #[.int .i64 ((rd_T40 l2 x32_1).f0), .int .i64 0]) ?_ 1 _ rfl; (with_reducible repeat (first | refine blk_drewN ?_ _ | refine blk_drew ?_ | refine blk_alloc ?_ _)); refine blk_put (cs := #[.int .i64 0, .int .i64 0]) ?_ 0 _ rfl; (with_reducible repeat (first | refine blk_drewN ?_ _ | refine blk_drew ?_ | refine blk_alloc ?_ _)); exact BK180.out⟩
                            have n4_ : Aside0 (IsS36 w ((w52.setCell ⟨gb180, 0, none⟩ (.int .i64 ((rd_T40 l2 x32_1).f0))).setCell ⟨gb180, 1, none⟩ (.int .i64 ((rd_T40 l2 x32_1).f1))) gb177 x178000_1 x178001_1 x178002_1 x178003_1) := ⟨by repeat (first | (with_reducible first | exact HI177.out | apply IsS36.alloc | apply IsS36.drewN | apply IsS36.drew | apply IsS36.set_0 | apply IsS36.set_1 | apply IsS36.set_2 | apply IsS36.set_3 | refine IsS36.far ?_ NB177_152.out _ | refine IsS36.far ?_ NB177_163.out _ | refine IsS36.far ?_ NB177_168.out _ | refine IsS36.far ?_ NB177_180.out _ | refine IsS36.far ?_ NB177_178.out _) | exact HI177.out)⟩
                            have n5_ : Aside0 (IsS36 w ((w52.setCell ⟨gb180, 0, none⟩ (.int .i64 ((rd_T40 l2 x32_1).f0))).setCell ⟨gb180, 1, none⟩ (.int .i64 ((rd_T40 l2 x32_1).f1))) gb178 x179000_1 x179001_1 x179002_1 x179003_1) := ⟨by repeat (first | (with_reducible first | exact HI178.out | apply IsS36.alloc | apply IsS36.drewN | apply IsS36.drew | apply IsS36.set_0 | apply IsS36.set_1 | apply IsS36.set_2 | apply IsS36.set_3 | refine IsS36.far ?_ NB178_152.out _ | refine IsS36.far ?_ NB178_163.out _ | refine IsS36.far ?_ NB178_168.out _ | refine IsS36.far ?_ NB178_180.out _ | refine IsS36.far ?_ NB178_177.out _) | exact HI178.out)⟩
                            have n6_ : Aside0 (Below w.heap.size w ((w52.setCell ⟨gb180, 0, none⟩ (.int .i64 ((rd_T40 l2 x32_1).f0))).setCell ⟨gb180, 1, none⟩ (.int .i64 ((rd_T40 l2 x32_1).f1)))) := ⟨by repeat (first | (with_reducible first | exact HB.out | apply below_alloc | apply pw_below_drewN | apply below_drew1 | refine below_set ?_ (IsS36.ge HI177.out) | refine below_set ?_ (IsS36.ge HI178.out) | refine below_set ?_ GE152.out | refine below_set ?_ GE163.out | refine below_set ?_ GE168.out | refine below_set ?_ GE180.out) | exact HB.out)⟩
                            (try clear BK152)
                            (try clear BK163)
                            (try clear BK168)
                            (try clear BK180)
                            (try clear HI177)
                            (try clear HI178)
                            (try clear HB)
                            generalize ((w52.setCell ⟨gb180, 0, none⟩ (.int .i64 ((rd_T40 l2 x32_1).f0))).setCell ⟨gb180, 1, none⟩ (.int .i64 ((rd_T40 l2 x32_1).f1))) = w64 at n0_ n1_ n2_ n3_ n4_ n5_ n6_ ⊢
                            have BK152 := n0_
                            have BK163 := n1_
                            have BK168 := n2_
                            have BK180 := n3_
                            have HI177 := n4_
                            have HI178 := n5_
                            have HB := n6_
                            clear n0_ n1_ n2_ n3_ n4_ n5_ n6_
                            (try (rw [drewN_self w64]; generalize hq_ : World.drewN w64 _ = w64; have n0_ : Aside0 (w64.heap[gb152]? = some (.cells #[.int .i64 a0_0, .int .i64 a0_1, .int .i64 a0_2] 23 (0, 0))) := ⟨by rw [← hq_]; exact (by (with_reducible repeat (first | refine blk_drewN ?_ _ | refine blk_drew ?_ | refine blk_alloc ?_ _)); exact BK152.out)⟩; have n1_ : Aside0 (w64.heap[gb163]? = some (.cells #[.int .i64 t154, .int .i64 t155, .int .i64 t156, .int .i64 t157, .int .i64 t158, .int .i64 t159, .int .i64 t160, .int .i64 t161, .bool t162] 28 (0, 0))) := ⟨by rw [← hq_]; exact (by (with_reducible repeat (first | refine blk_drewN ?_ _ | refine blk_drew ?_ | refine blk_alloc ?_ _)); exact BK163.out)⟩; have n2_ : Aside0 (w64.heap[gb168]? = some (.cells #[.int .i64 t164, .int .i64 t165, .int .i64 t166, .int .i64 t167] 31 (0, 0))) := ⟨by rw [← hq_]; exact (by (with_reducible repeat (first | refine blk_drewN ?_ _ | refine blk_drew ?_ | refine blk_alloc ?_ _)); exact BK168.out)⟩; have n3_ : Aside0 (w64.heap[gb180]? = some (.cells #[.int .i64 ((rd_T40 l2 x32_1).f0), .int .i64 ((rd_T40 l2 x32_1).f1)] 40 (0, 0))) := ⟨by rw [← hq_]; exact (by (with_reducible repeat (first | refine blk_drewN ?_ _ | refine blk_drew ?_ | refine blk_alloc ?_ _)); exact BK180.out)⟩; have n4_ : Aside0 (IsS36 w w64 gb177 x178000_1 x178001_1 x178002_1 x178003_1) := ⟨by rw [← hq_]; exact (by repeat (first | (with_reducible first | exact HI177.out | apply IsS36.alloc | apply IsS36.drewN | apply IsS36.drew | apply IsS36.set_0 | apply IsS36.set_1 | apply IsS36.set_2 | apply IsS36.set_3 | refine IsS36.far ?_ NB177_152.out _ | refine IsS36.far ?_ NB177_163.out _ | refine IsS36.far ?_ NB177_168.out _ | refine IsS36.far ?_ NB177_180.out _ | refine IsS36.far ?_ NB177_178.out _) | exact HI177.out))⟩; have n5_ : Aside0 (IsS36 w w64 gb178 x179000_1 x179001_1 x179002_1 x179003_1) := ⟨by rw [← hq_]; exact (by repeat (first | (with_reducible first | exact HI178.out | apply IsS36.alloc | apply IsS36.drewN | apply IsS36.drew | apply IsS36.set_0 | apply IsS36.set_1 | apply IsS36.set_2 | apply IsS36.set_3 | refine IsS36.far ?_ NB178_152.out _ | refine IsS36.far ?_ NB178_163.out _ | refine IsS36.far ?_ NB178_168.out _ | refine IsS36.far ?_ NB178_180.out _ | refine IsS36.far ?_ NB178_177.out _) | exact HI178.out))⟩; have n6_ : Aside0 (Below w.heap.size w w64) := ⟨by rw [← hq_]; exact (by repeat (first | (with_reducible first | exact HB.out | apply below_alloc | apply pw_below_drewN | apply below_drew1 | refine below_set ?_ (IsS36.ge HI177.out) | refine below_set ?_ (IsS36.ge HI178.out) | refine below_set ?_ GE152.out | refine below_set ?_ GE163.out | refine below_set ?_ GE168.out | refine below_set ?_ GE180.out) | exact HB.out))⟩; clear BK152 BK163 BK168 BK180 HI177 HI178 HB hq_; have BK152 := n0_; have BK163 := n1_; have BK168 := n2_; have BK180 := n3_; have HI177 := n4_; have HI178 := n5_; have HB := n6_; clear n0_ n1_ n2_ n3_ n4_ n5_ n6_))
                            have n0_ := Aside0.mk (blk_drew BK152.out)
                            have n1_ := Aside0.mk (blk_drew BK163.out)
                            have n2_ := Aside0.mk (blk_drew BK168.out)
                            have n3_ := Aside0.mk (blk_drew BK180.out)
                            have n4_ := Aside0.mk (IsS36.drew HI177.out)
                            have n5_ := Aside0.mk (IsS36.drew HI178.out)
                            have n6_ := Aside0.mk (below_drew1 HB.out)
                            clear BK152
                            clear BK163
                            clear BK168
                            clear BK180
                            clear HI177
                            clear HI178
                            clear HB
                            have BK152 := n0_
                            have BK163 := n1_
                            have BK168 := n2_
                            have BK180 := n3_
                            have HI177 := n4_
                            have HI178 := n5_
                            have HB := n6_
                            clear n0_ n1_ n2_ n3_ n4_ n5_ n6_
                            refine start_ (n := 65) (S := fun w' => w'.cell? ⟨gb177, 0, none⟩ = some (.int .i64 x178000_1) ∧ w'.cell? ⟨gb177, 1, none⟩ = some (.int .i64 x178001_1) ∧ w'.cell? ⟨gb177, 2, none⟩ = some (.int .i64 x178002_1) ∧ w'.cell? ⟨gb177, 3, none⟩ = some (.int .i64 x178003_1) ∧ w'.cell? ⟨gb168, 0, none⟩ = some (.int .i64 t164) ∧ w'.cell? ⟨gb168, 1, none⟩ = some (.int .i64 t165) ∧ w'.cell? ⟨gb168, 2, none⟩ = some (.int .i64 t166) ∧ w'.cell? ⟨gb168, 3, none⟩ = some (.int .i64 t167) ∧ w'.cell? ⟨gb178, 0, none⟩ = some (.int .i64 x179000_1) ∧ w'.cell? ⟨gb178, 1, none⟩ = some (.int .i64 x179001_1) ∧ w'.cell? ⟨gb178, 2, none⟩ = some (.int .i64 x179002_1) ∧ w'.cell? ⟨gb178, 3, none⟩ = some (.int .i64 x179003_1)) (ds := [27, 28, 29, 30, 31, 32, 33, 34, 35, 36, 37, 38, 39, 40, 41, 42, 43, 44, 45, 46, 47, 48, 49, 50, 51, 52, 53, 54, 55, 56, 57, 58, 59, 60, 61, 62, 63, 64]) #[false, false, false, false, false, false, false, false, false, false, false, false, false, false, false, false, false, false, false, false, false, false, false, false, false, false, false, false, false, false, false, false, false, false, false, false, false, false, false, false, false, false, false, false, false, false, false, false, false, false, false, false, false, false, false, false, false, false, false, false, false, false, false, false, false] (by kernel_rfl) rfl rfl ⟨(blk_cell (Aside0.mk HI177.out.1).out 0).trans rfl, (blk_cell (Aside0.mk HI177.out.1).out 1).trans rfl, (blk_cell (Aside0.mk HI177.out.1).out 2).trans rfl, (blk_cell (Aside0.mk HI177.out.1).out 3).trans rfl, (blk_cell BK168.out 0).trans rfl, (blk_cell BK168.out 1).trans rfl, (blk_cell BK168.out 2).trans rfl, (blk_cell BK168.out 3).trans rfl, (blk_cell (Aside0.mk HI178.out.1).out 0).trans rfl, (blk_cell (Aside0.mk HI178.out.1).out 1).trans rfl, (blk_cell (Aside0.mk HI178.out.1).out 2).trans rfl, (blk_cell (Aside0.mk HI178.out.1).out 3).trans rfl⟩ (fun hHeld => ?_); refine with_tabW weighbridgelaw09_CellShift.tab15 weighbridgelaw09_CellShift.bits15 (fun HT_ HW_ => ?_)
                            generalize w64.drew = w65 at BK152 BK163 BK168 BK180 HI177 HI178 HB hHeld ⊢
                            refine pure_ (i := 2) (N := some 50) (v := ?_) (a' := ?_) #[false, false, true, false, false, false, false, false, false, false, false, false, false, false, false, false, false, false, false, false, false, false, false, false, false, false, false, false, false, false, false, false, false, false, false, false, false, false, false, false, false, false, false, false, false, false, false, false, false, false, false, false, false, false, false, false, false, false, false, false, false, false, false, false, false] rfl rfl (any_of HT_.out (by kernel_rfl)) (fun _ _ _ h => h) (Or.inl ⟨by rfl, ?_⟩) ?_ ?_
                            rotate_left
                            · intro w'
                              go_simp
                              with_reducible rfl
                            rotate_left
                            · simp only [Act.put, List.setIfInBounds_toArray, List.set_cons_zero, List.set_cons_succ, i64_w, i32_w]
                              rfl
                            refine pure_ (i := 6) (N := some 54) (v := ?_) (a' := ?_) #[false, false, true, false, false, false, true, false, false, false, false, false, false, false, false, false, false, false, false, false, false, false, false, false, false, false, false, false, false, false, false, false, false, false, false, false, false, false, false, false, false, false, false, false, false, false, false, false, false, false, false, false, false, false, false, false, false, false, false, false, false, false, false, false, false] rfl rfl (any_of HT_.out (by kernel_rfl)) (fun _ _ _ h => h) (Or.inl ⟨by rfl, ?_⟩) ?_ ?_
                            rotate_left
                            · intro w'
                              go_simp
                              with_reducible rfl
                            rotate_left
                            · simp only [Act.put, List.setIfInBounds_toArray, List.set_cons_zero, List.set_cons_succ, i64_w, i32_w]
                              rfl
                            refine pure_ (i := 7) (N := some 55) (v := ?_) (a' := ?_) #[false, false, true, false, false, false, true, true, false, false, false, false, false, false, false, false, false, false, false, false, false, false, false, false, false, false, false, false, false, false, false, false, false, false, false, false, false, false, false, false, false, false, false, false, false, false, false, false, false, false, false, false, false, false, false, false, false, false, false, false, false, false, false, false, false] rfl rfl (any_of HT_.out (by kernel_rfl)) (fun _ _ _ h => h) (Or.inl ⟨by rfl, ?_⟩) ?_ ?_
                            rotate_left
                            · intro w'
                              go_simp
                              with_reducible rfl
                            rotate_left
                            · simp only [Act.put, List.setIfInBounds_toArray, List.set_cons_zero, List.set_cons_succ, i64_w, i32_w]
                              rfl
                            refine pure_ (i := 8) (N := some 56) (v := ?_) (a' := ?_) #[false, false, true, false, false, false, true, true, true, false, false, false, false, false, false, false, false, false, false, false, false, false, false, false, false, false, false, false, false, false, false, false, false, false, false, false, false, false, false, false, false, false, false, false, false, false, false, false, false, false, false, false, false, false, false, false, false, false, false, false, false, false, false, false, false] rfl rfl (any_of HT_.out (by kernel_rfl)) (fun _ _ _ h => h) (Or.inl ⟨by rfl, ?_⟩) ?_ ?_
                            rotate_left
                            · intro w'
                              go_simp
                              with_reducible rfl
                            rotate_left
                            · simp only [Act.put, List.setIfInBounds_toArray, List.set_cons_zero, List.set_cons_succ, i64_w, i32_w]
                              rfl
                            refine take_ (i := 0) (N := some 48) (v := ?_) (a' := ?_) #[true, false, true, false, false, false, true, true, true, false, false, false, false, false, false, false, false, false, false, false, false, false, false, false, false, false, false, false, false, false, false, false, false, false, false, false, false, false, false, false, false, false, false, false, false, false, false, false, false, false, false, false, false, false, false, false, false, false, false, false, false, false, false, false, false] rfl rfl (take_ofW HT_.out HW_.out (by kernel_rfl)) (fun _ _ _ h => h) (Or.inl ⟨by rfl, ?_⟩) hHeld ?_ ?_
                            rotate_left
                            · rintro w' ⟨s0, s1, s2, s3, s4, s5, s6, s7, s8, s9, s10, s11⟩
                              go_simp
                              with_reducible rfl
                            rotate_left
                            · simp only [Act.put, List.setIfInBounds_toArray, List.set_cons_zero, List.set_cons_succ, i64_w, i32_w]
                              rfl
                            refine take_ (i := 1) (N := some 49) (v := ?_) (a' := ?_) #[true, true, true, false, false, false, true, true, true, false, false, false, false, false, false, false, false, false, false, false, false, false, false, false, false, false, false, false, false, false, false, false, false, false, false, false, false, false, false, false, false, false, false, false, false, false, false, false, false, false, false, false, false, false, false, false, false, false, false, false, false, false, false, false, false] rfl rfl (take_ofW HT_.out HW_.out (by kernel_rfl)) (fun _ _ _ h => h) (Or.inl ⟨by rfl, ?_⟩) hHeld ?_ ?_
                            rotate_left
                            · rintro w' ⟨s0, s1, s2, s3, s4, s5, s6, s7, s8, s9, s10, s11⟩
                              go_simp
                              with_reducible rfl
                            rotate_left
                            · simp only [Act.put, List.setIfInBounds_toArray, List.set_cons_zero, List.set_cons_succ, i64_w, i32_w]
                              rfl
                            refine take_ (i := 4) (N := some 52) (v := ?_) (a' := ?_) #[true, true, true, false, true, false, true, true, true, false, false, false, false, false, false, false, false, false, false, false, false, false, false, false, false, false, false, false, false, false, false, false, false, false, false, false, false, false, false, false, false, false, false, false, false, false, false, false, false, false, false, false, false, false, false, false, false, false, false, false, false, false, false, false, false] rfl rfl (take_ofW HT_.out HW_.out (by kernel_rfl)) (fun _ _ _ h => h) (Or.inl ⟨by rfl, ?_⟩) hHeld ?_ ?_
                            rotate_left
                            · rintro w' ⟨s0, s1, s2, s3, s4, s5, s6, s7, s8, s9, s10, s11⟩
                              go_simp
                              with_reducible rfl
                            rotate_left
                            · simp only [Act.put, List.setIfInBounds_toArray, List.set_cons_zero, List.set_cons_succ, i64_w, i32_w]
                              rfl
                            refine take_ (i := 5) (N := some 53) (v := ?_) (a' := ?_) #[true, true, true, false, true, true, true, true, true, false, false, false, false, false, false, false, false, false, false, false, false, false, false, false, false, false, false, false, false, false, false, false, false, false, false, false, false, false, false, false, false, false, false, false, false, false, false, false, false, false, false, false, false, false, false, false, false, false, false, false, false, false, false, false, false] rfl rfl (take_ofW HT_.out HW_.out (by kernel_rfl)) (fun _ _ _ h => h) (Or.inl ⟨by rfl, ?_⟩) hHeld ?_ ?_
                            rotate_left
                            · rintro w' ⟨s0, s1, s2, s3, s4, s5, s6, s7, s8, s9, s10, s11⟩
                              go_simp
                              with_reducible rfl
                            rotate_left
                            · simp only [Act.put, List.setIfInBounds_toArray, List.set_cons_zero, List.set_cons_succ, i64_w, i32_w]
                              rfl
                            refine one_ (i := 3) (N := some 51) #[true, true, true, true, true, true, true, true, true, false, false, false, false, false, false, false, false, false, false, false, false, false, false, false, false, false, false, false, false, false, false, false, false, false, false, false, false, false, false, false, false, false, false, false, false, false, false, false, false, false, false, false, false, false, false, false, false, false, false, false, false, false, false, false, false] rfl rfl (one_of HT_.out (by kernel_rfl)) (by decide) (fun K hK => ?_)
                            refine goes_ Try.func17 (by kernel_rfl) rfl #[.agg #[.int .i64 x178000_1, .int .i64 x178001_1, .int .i64 x178002_1, .int .i64 x178003_1], .agg #[.int .i64 t164, .int .i64 t165, .int .i64 t166, .int .i64 t167], .int .i64 (wrap64 (x11_1 + t181))] (by rfl) rfl rfl (by (try simp only [List.map_toArray, List.map_cons, List.map_nil]); first | done | rfl | (simp only [List.length_drop, List.length_take]; rfl)) ?_
                            with_reducible refine (cell_Cell_Room.calls k1 x178000_1 x178001_1 x178002_1 x178003_1 t164 t165 t166 t167 (wrap64 (x11_1 + t181)) t182 _ A37.out).mono ?_
                            rintro e w66 ⟨rfl, hb⟩
                            refine ⟨_, rfl, ?_⟩
                            have n0_ := Aside0.mk (blk_below (g := gb152) (o := .cells #[.int .i64 a0_0, .int .i64 a0_1, .int .i64 a0_2] 23 (0, 0)) (by (with_reducible repeat (first | refine blk_drewN ?_ _ | refine blk_drew ?_ | refine blk_alloc ?_ _)); exact BK152.out) hb)
                            have n1_ := Aside0.mk (blk_below (g := gb163) (o := .cells #[.int .i64 t154, .int .i64 t155, .int .i64 t156, .int .i64 t157, .int .i64 t158, .int .i64 t159, .int .i64 t160, .int .i64 t161, .bool t162] 28 (0, 0)) (by (with_reducible repeat (first | refine blk_drewN ?_ _ | refine blk_drew ?_ | refine blk_alloc ?_ _)); exact BK163.out) hb)
                            have n2_ := Aside0.mk (blk_below (g := gb168) (o := .cells #[.int .i64 t164, .int .i64 t165, .int .i64 t166, .int .i64 t167] 31 (0, 0)) (by (with_reducible repeat (first | refine blk_drewN ?_ _ | refine blk_drew ?_ | refine blk_alloc ?_ _)); exact BK168.out) hb)
                            have n3_ := Aside0.mk (IsS36.below (by repeat (first | (with_reducible first | exact HI177.out | apply IsS36.alloc | apply IsS36.drewN | apply IsS36.drew | apply IsS36.set_0 | apply IsS36.set_1 | apply IsS36.set_2 | apply IsS36.set_3 | refine IsS36.far ?_ NB177_152.out _ | refine IsS36.far ?_ NB177_163.out _ | refine IsS36.far ?_ NB177_168.out _ | refine IsS36.far ?_ NB177_180.out _ | refine IsS36.far ?_ NB177_178.out _) | exact HI177.out)) hb)
                            have n4_ := Aside0.mk (IsS36.below (by repeat (first | (with_reducible first | exact HI178.out | apply IsS36.alloc | apply IsS36.drewN | apply IsS36.drew | apply IsS36.set_0 | apply IsS36.set_1 | apply IsS36.set_2 | apply IsS36.set_3 | refine IsS36.far ?_ NB178_152.out _ | refine IsS36.far ?_ NB178_163.out _ | refine IsS36.far ?_ NB178_168.out _ | refine IsS36.far ?_ NB178_180.out _ | refine IsS36.far ?_ NB178_177.out _) | exact HI178.out)) hb)
                            have n5_ := Aside0.mk (blk_below (g := gb180) (o := .cells #[.int .i64 ((rd_T40 l2 x32_1).f0), .int .i64 ((rd_T40 l2 x32_1).f1)] 40 (0, 0)) (by (with_reducible repeat (first | refine blk_drewN ?_ _ | refine blk_drew ?_ | refine blk_alloc ?_ _)); exact BK180.out) hb)
                            have n6_ := Aside0.mk (below_step (by repeat (first | (with_reducible first | exact HB.out | apply below_alloc | apply pw_below_drewN | apply below_drew1 | refine below_set ?_ (IsS36.ge HI177.out) | refine below_set ?_ (IsS36.ge HI178.out) | refine below_set ?_ GE152.out | refine below_set ?_ GE163.out | refine below_set ?_ GE168.out | refine below_set ?_ GE180.out) | exact HB.out)) hb)
                            clear BK152
                            clear BK163
                            clear BK168
                            clear HI177
                            clear HI178
                            clear BK180
                            clear HB
                            have BK152 := n0_
                            have BK163 := n1_
                            have BK168 := n2_
                            have HI177 := n3_
                            have HI178 := n4_
                            have BK180 := n5_
                            have HB := n6_
                            clear n0_ n1_ n2_ n3_ n4_ n5_ n6_
                            (try clear hb)
                            (try clear hb2)
                            (try clear hk)
                            (try clear hi)
                            refine hK.out _ _ ⟨(blk_cell (Aside0.mk HI177.out.1).out 0).trans rfl, (blk_cell (Aside0.mk HI177.out.1).out 1).trans rfl, (blk_cell (Aside0.mk HI177.out.1).out 2).trans rfl, (blk_cell (Aside0.mk HI177.out.1).out 3).trans rfl, (blk_cell BK168.out 0).trans rfl, (blk_cell BK168.out 1).trans rfl, (blk_cell BK168.out 2).trans rfl, (blk_cell BK168.out 3).trans rfl, (blk_cell (Aside0.mk HI178.out.1).out 0).trans rfl, (blk_cell (Aside0.mk HI178.out.1).out 1).trans rfl, (blk_cell (Aside0.mk HI178.out.1).out 2).trans rfl, (blk_cell (Aside0.mk HI178.out.1).out 3).trans rfl⟩ (fun hHeld => ?_)
                            clear hK K
                            refine norm_ (a' := ?_) ?_ ?_
                            rotate_left
                            · show Act.put _ (some 51) _ = _
                              simp only [Act.put, List.setIfInBounds_toArray, List.set_cons_zero, List.set_cons_succ, i64_w, i32_w]
                              rfl
                            refine one_ (i := 9) (N := some 57) #[true, true, true, true, true, true, true, true, true, true, false, false, false, false, false, false, false, false, false, false, false, false, false, false, false, false, false, false, false, false, false, false, false, false, false, false, false, false, false, false, false, false, false, false, false, false, false, false, false, false, false, false, false, false, false, false, false, false, false, false, false, false, false, false, false] rfl rfl (one_of HT_.out (by kernel_rfl)) (by decide) (fun K hK => ?_)
                            refine goes_ Try.func17 (by kernel_rfl) rfl #[.agg #[.int .i64 x179000_1, .int .i64 x179001_1, .int .i64 x179002_1, .int .i64 x179003_1], .agg #[.int .i64 t164, .int .i64 t165, .int .i64 t166, .int .i64 t167], .int .i64 (wrap64 ((wrap64 (x11_1 + t181)) + (Go.bits .and .i64 a1 1152921504606846975)))] (by rfl) rfl rfl (by (try simp only [List.map_toArray, List.map_cons, List.map_nil]); first | done | rfl | (simp only [List.length_drop, List.length_take]; rfl)) ?_
                            with_reducible refine (cell_Cell_Room.calls k1 x179000_1 x179001_1 x179002_1 x179003_1 t164 t165 t166 t167 (wrap64 ((wrap64 (x11_1 + t181)) + (Go.bits .and .i64 a1 1152921504606846975))) t183 _ A38.out).mono ?_
                            rintro e w67 ⟨rfl, hb⟩
                            refine ⟨_, rfl, ?_⟩
                            have n0_ := Aside0.mk (blk_below (g := gb152) (o := .cells #[.int .i64 a0_0, .int .i64 a0_1, .int .i64 a0_2] 23 (0, 0)) (by (with_reducible repeat (first | refine blk_drewN ?_ _ | refine blk_drew ?_ | refine blk_alloc ?_ _)); exact BK152.out) hb)
                            have n1_ := Aside0.mk (blk_below (g := gb163) (o := .cells #[.int .i64 t154, .int .i64 t155, .int .i64 t156, .int .i64 t157, .int .i64 t158, .int .i64 t159, .int .i64 t160, .int .i64 t161, .bool t162] 28 (0, 0)) (by (with_reducible repeat (first | refine blk_drewN ?_ _ | refine blk_drew ?_ | refine blk_alloc ?_ _)); exact BK163.out) hb)
                            have n2_ := Aside0.mk (blk_below (g := gb168) (o := .cells #[.int .i64 t164, .int .i64 t165, .int .i64 t166, .int .i64 t167] 31 (0, 0)) (by (with_reducible repeat (first | refine blk_drewN ?_ _ | refine blk_drew ?_ | refine blk_alloc ?_ _)); exact BK168.out) hb)
                            have n3_ := Aside0.mk (IsS36.below (by repeat (first | (with_reducible first | exact HI177.out | apply IsS36.alloc | apply IsS36.drewN | apply IsS36.drew | apply IsS36.set_0 | apply IsS36.set_1 | apply IsS36.set_2 | apply IsS36.set_3 | refine IsS36.far ?_ NB177_152.out _ | refine IsS36.far ?_ NB177_163.out _ | refine IsS36.far ?_ NB177_168.out _ | refine IsS36.far ?_ NB177_180.out _ | refine IsS36.far ?_ NB177_178.out _) | exact HI177.out)) hb)
                            have n4_ := Aside0.mk (IsS36.below (by repeat (first | (with_reducible first | exact HI178.out | apply IsS36.alloc | apply IsS36.drewN | apply IsS36.drew | apply IsS36.set_0 | apply IsS36.set_1 | apply IsS36.set_2 | apply IsS36.set_3 | refine IsS36.far ?_ NB178_152.out _ | refine IsS36.far ?_ NB178_163.out _ | refine IsS36.far ?_ NB178_168.out _ | refine IsS36.far ?_ NB178_180.out _ | refine IsS36.far ?_ NB178_177.out _) | exact HI178.out)) hb)
                            have n5_ := Aside0.mk (blk_below (g := gb180) (o := .cells #[.int .i64 ((rd_T40 l2 x32_1).f0), .int .i64 ((rd_T40 l2 x32_1).f1)] 40 (0, 0)) (by (with_reducible repeat (first | refine blk_drewN ?_ _ | refine blk_drew ?_ | refine blk_alloc ?_ _)); exact BK180.out) hb)
                            have n6_ := Aside0.mk (below_step (by repeat (first | (with_reducible first | exact HB.out | apply below_alloc | apply pw_below_drewN | apply below_drew1 | refine below_set ?_ (IsS36.ge HI177.out) | refine below_set ?_ (IsS36.ge HI178.out) | refine below_set ?_ GE152.out | refine below_set ?_ GE163.out | refine below_set ?_ GE168.out | refine below_set ?_ GE180.out) | exact HB.out)) hb)
                            clear BK152
                            clear BK163
                            clear BK168
                            clear HI177
                            clear HI178
                            clear BK180
                            clear HB
                            have BK152 := n0_
                            have BK163 := n1_
                            have BK168 := n2_
                            have HI177 := n3_
                            have HI178 := n4_
                            have BK180 := n5_
                            have HB := n6_
                            clear n0_ n1_ n2_ n3_ n4_ n5_ n6_
                            (try clear hb)
                            (try clear hb2)
                            (try clear hk)
                            (try clear hi)
                            refine hK.out _ _ ⟨(blk_cell (Aside0.mk HI177.out.1).out 0).trans rfl, (blk_cell (Aside0.mk HI177.out.1).out 1).trans rfl, (blk_cell (Aside0.mk HI177.out.1).out 2).trans rfl, (blk_cell (Aside0.mk HI177.out.1).out 3).trans rfl, (blk_cell BK168.out 0).trans rfl, (blk_cell BK168.out 1).trans rfl, (blk_cell BK168.out 2).trans rfl, (blk_cell BK168.out 3).trans rfl, (blk_cell (Aside0.mk HI178.out.1).out 0).trans rfl, (blk_cell (Aside0.mk HI178.out.1).out 1).trans rfl, (blk_cell (Aside0.mk HI178.out.1).out 2).trans rfl, (blk_cell (Aside0.mk HI178.out.1).out 3).trans rfl⟩ (fun hHeld => ?_)
                            clear hK K
                            refine norm_ (a' := ?_) ?_ ?_
                            rotate_left
                            · show Act.put _ (some 57) _ = _
                              simp only [Act.put, List.setIfInBounds_toArray, List.set_cons_zero, List.set_cons_succ, i64_w, i32_w]
                              rfl
                            refine pure_ (i := 10) (N := some 58) (v := ?_) (a' := ?_) #[true, true, true, true, true, true, true, true, true, true, true, false, false, false, false, false, false, false, false, false, false, false, false, false, false, false, false, false, false, false, false, false, false, false, false, false, false, false, false, false, false, false, false, false, false, false, false, false, false, false, false, false, false, false, false, false, false, false, false, false, false, false, false, false, false] rfl rfl (any_of HT_.out (by kernel_rfl)) (fun _ _ _ h => h) (Or.inl ⟨by rfl, ?_⟩) ?_ ?_
                            rotate_left
                            · intro w'
                              go_simp
                              with_reducible rfl
                            rotate_left
                            · simp only [Act.put, List.setIfInBounds_toArray, List.set_cons_zero, List.set_cons_succ, i64_w, i32_w]
                              rfl
                            refine pure_ (i := 11) (N := some 59) (v := ?_) (a' := ?_) #[true, true, true, true, true, true, true, true, true, true, true, true, false, false, false, false, false, false, false, false, false, false, false, false, false, false, false, false, false, false, false, false, false, false, false, false, false, false, false, false, false, false, false, false, false, false, false, false, false, false, false, false, false, false, false, false, false, false, false, false, false, false, false, false, false] rfl rfl (any_of HT_.out (by kernel_rfl)) (fun _ _ _ h => h) (Or.inl ⟨by rfl, ?_⟩) ?_ ?_
                            rotate_left
                            · intro w'
                              go_simp
                              with_reducible rfl
                            rotate_left
                            · simp only [Act.put, List.setIfInBounds_toArray, List.set_cons_zero, List.set_cons_succ, i64_w, i32_w]
                              rfl
                            refine pure_ (i := 14) (N := some 62) (v := ?_) (a' := ?_) #[true, true, true, true, true, true, true, true, true, true, true, true, false, false, true, false, false, false, false, false, false, false, false, false, false, false, false, false, false, false, false, false, false, false, false, false, false, false, false, false, false, false, false, false, false, false, false, false, false, false, false, false, false, false, false, false, false, false, false, false, false, false, false, false, false] rfl rfl (any_of HT_.out (by kernel_rfl)) (fun _ _ _ h => h) (Or.inl ⟨by rfl, ?_⟩) ?_ ?_
                            rotate_left
                            · intro w'
                              go_simp
                              with_reducible rfl
                            rotate_left
                            · simp only [Act.put, List.setIfInBounds_toArray, List.set_cons_zero, List.set_cons_succ, i64_w, i32_w]
                              rfl
                            refine pure_ (i := 15) (N := some 63) (v := ?_) (a' := ?_) #[true, true, true, true, true, true, true, true, true, true, true, true, false, false, true, true, false, false, false, false, false, false, false, false, false, false, false, false, false, false, false, false, false, false, false, false, false, false, false, false, false, false, false, false, false, false, false, false, false, false, false, false, false, false, false, false, false, false, false, false, false, false, false, false, false] rfl rfl (any_of HT_.out (by kernel_rfl)) (fun _ _ _ h => h) (Or.inl ⟨by rfl, ?_⟩) ?_ ?_
                            rotate_left
                            · intro w'
                              go_simp
                              with_reducible rfl
                            rotate_left
                            · simp only [Act.put, List.setIfInBounds_toArray, List.set_cons_zero, List.set_cons_succ, i64_w, i32_w]
                              rfl
                            refine pure_ (i := 19) (N := some 67) (v := ?_) (a' := ?_) #[true, true, true, true, true, true, true, true, true, true, true, true, false, false, true, true, false, false, false, true, false, false, false, false, false, false, false, false, false, false, false, false, false, false, false, false, false, false, false, false, false, false, false, false, false, false, false, false, false, false, false, false, false, false, false, false, false, false, false, false, false, false, false, false, false] rfl rfl (any_of HT_.out (by kernel_rfl)) (fun _ _ _ h => h) (Or.inl ⟨by rfl, ?_⟩) ?_ ?_
                            rotate_left
                            · intro w'
                              go_simp
                              with_reducible rfl
                            rotate_left
                            · simp only [Act.put, List.setIfInBounds_toArray, List.set_cons_zero, List.set_cons_succ, i64_w, i32_w]
                              rfl
                            refine pure_ (i := 20) (N := some 68) (v := ?_) (a' := ?_) #[true, true, true, true, true, true, true, true, true, true, true, true, false, false, true, true, false, false, false, true, true, false, false, false, false, false, false, false, false, false, false, false, false, false, false, false, false, false, false, false, false, false, false, false, false, false, false, false, false, false, false, false, false, false, false, false, false, false, false, false, false, false, false, false, false] rfl rfl (any_of HT_.out (by kernel_rfl)) (fun _ _ _ h => h) (Or.inl ⟨by rfl, ?_⟩) ?_ ?_
                            rotate_left
                            · intro w'
                              go_simp
                              with_reducible rfl
                            rotate_left
                            · simp only [Act.put, List.setIfInBounds_toArray, List.set_cons_zero, List.set_cons_succ, i64_w, i32_w]
                              rfl
                            refine pure_ (i := 21) (N := some 69) (v := ?_) (a' := ?_) #[true, true, true, true, true, true, true, true, true, true, true, true, false, false, true, true, false, false, false, true, true, true, false, false, false, false, false, false, false, false, false, false, false, false, false, false, false, false, false, false, false, false, false, false, false, false, false, false, false, false, false, false, false, false, false, false, false, false, false, false, false, false, false, false, false] rfl rfl (any_of HT_.out (by kernel_rfl)) (fun _ _ _ h => h) (Or.inl ⟨by rfl, ?_⟩) ?_ ?_
                            rotate_left
                            · intro w'
                              go_simp
                              with_reducible rfl
                            rotate_left
                            · simp only [Act.put, List.setIfInBounds_toArray, List.set_cons_zero, List.set_cons_succ, i64_w, i32_w]
                              rfl
                            refine pure_ (i := 22) (N := some 70) (v := ?_) (a' := ?_) #[true, true, true, true, true, true, true, true, true, true, true, true, false, false, true, true, false, false, false, true, true, true, true, false, false, false, false, false, false, false, false, false, false, false, false, false, false, false, false, false, false, false, false, false, false, false, false, false, false, false, false, false, false, false, false, false, false, false, false, false, false, false, false, false, false] rfl rfl (any_of HT_.out (by kernel_rfl)) (fun _ _ _ h => h) (Or.inl ⟨by rfl, ?_⟩) ?_ ?_
                            rotate_left
                            · intro w'
                              go_simp
                              with_reducible rfl
                            rotate_left
                            · simp only [Act.put, List.setIfInBounds_toArray, List.set_cons_zero, List.set_cons_succ, i64_w, i32_w]
                              rfl
                            refine take_ (i := 12) (N := some 60) (v := ?_) (a' := ?_) #[true, true, true, true, true, true, true, true, true, true, true, true, true, false, true, true, false, false, false, true, true, true, true, false, false, false, false, false, false, false, false, false, false, false, false, false, false, false, false, false, false, false, false, false, false, false, false, false, false, false, false, false, false, false, false, false, false, false, false, false, false, false, false, false, false] rfl rfl (take_ofW HT_.out HW_.out (by kernel_rfl)) (fun _ _ _ h => h) (Or.inl ⟨by rfl, ?_⟩) hHeld ?_ ?_
                            rotate_left
                            · rintro w' ⟨s0, s1, s2, s3, s4, s5, s6, s7, s8, s9, s10, s11⟩
                              go_simp
                              with_reducible rfl
                            rotate_left
                            · simp only [Act.put, List.setIfInBounds_toArray, List.set_cons_zero, List.set_cons_succ, i64_w, i32_w]
                              rfl
                            refine take_ (i := 13) (N := some 61) (v := ?_) (a' := ?_) #[true, true, true, true, true, true, true, true, true, true, true, true, true, true, true, true, false, false, false, true, true, true, true, false, false, false, false, false, false, false, false, false, false, false, false, false, false, false, false, false, false, false, false, false, false, false, false, false, false, false, false, false, false, false, false, false, false, false, false, false, false, false, false, false, false] rfl rfl (take_ofW HT_.out HW_.out (by kernel_rfl)) (fun _ _ _ h => h) (Or.inl ⟨by rfl, ?_⟩) hHeld ?_ ?_
                            rotate_left
                            · rintro w' ⟨s0, s1, s2, s3, s4, s5, s6, s7, s8, s9, s10, s11⟩
                              go_simp
                              with_reducible rfl
                            rotate_left
                            · simp only [Act.put, List.setIfInBounds_toArray, List.set_cons_zero, List.set_cons_succ, i64_w, i32_w]
                              rfl
                            refine take_ (i := 17) (N := some 65) (v := ?_) (a' := ?_) #[true, true, true, true, true, true, true, true, true, true, true, true, true, true, true, true, false, true, false, true, true, true, true, false, false, false, false, false, false, false, false, false, false, false, false, false, false, false, false, false, false, false, false, false, false, false, false, false, false, false, false, false, false, false, false, false, false, false, false, false, false, false, false, false, false] rfl rfl (take_ofW HT_.out HW_.out (by kernel_rfl)) (fun _ _ _ h => h) (Or.inl ⟨by rfl, ?_⟩) hHeld ?_ ?_
                            rotate_left
                            · rintro w' ⟨s0, s1, s2, s3, s4, s5, s6, s7, s8, s9, s10, s11⟩
                              go_simp
                              with_reducible rfl
                            rotate_left
                            · simp only [Act.put, List.setIfInBounds_toArray, List.set_cons_zero, List.set_cons_succ, i64_w, i32_w]
                              rfl
                            refine take_ (i := 18) (N := some 66) (v := ?_) (a' := ?_) #[true, true, true, true, true, true, true, true, true, true, true, true, true, true, true, true, false, true, true, true, true, true, true, false, false, false, false, false, false, false, false, false, false, false, false, false, false, false, false, false, false, false, false, false, false, false, false, false, false, false, false, false, false, false, false, false, false, false, false, false, false, false, false, false, false] rfl rfl (take_ofW HT_.out HW_.out (by kernel_rfl)) (fun _ _ _ h => h) (Or.inl ⟨by rfl, ?_⟩) hHeld ?_ ?_
                            rotate_left
                            · rintro w' ⟨s0, s1, s2, s3, s4, s5, s6, s7, s8, s9, s10, s11⟩
                              go_simp
                              with_reducible rfl
                            rotate_left
                            · simp only [Act.put, List.setIfInBounds_toArray, List.set_cons_zero, List.set_cons_succ, i64_w, i32_w]
                              rfl
                            refine one_ (i := 16) (N := some 64) #[true, true, true, true, true, true, true, true, true, true, true, true, true, true, true, true, true, true, true, true, true, true, true, false, false, false, false, false, false, false, false, false, false, false, false, false, false, false, false, false, false, false, false, false, false, false, false, false, false, false, false, false, false, false, false, false, false, false, false, false, false, false, false, false, false] rfl rfl (one_of HT_.out (by kernel_rfl)) (by decide) (fun K hK => ?_)
                            refine goes_ Try.func19 (by kernel_rfl) rfl #[.agg #[.int .i64 x178000_1, .int .i64 x178001_1, .int .i64 x178002_1, .int .i64 x178003_1], .agg #[.int .i64 t164, .int .i64 t165, .int .i64 t166, .int .i64 t167], .int .i64 (wrap64 (x11_1 + t181)), .int .i64 (wrap64 ((Int.tmod (Go.bits .and .i64 ((rd_T40 l2 x32_1).f1) 31) t156) + 1))] (by rfl) rfl rfl (by (try simp only [List.map_toArray, List.map_cons, List.map_nil]); first | done | rfl | (simp only [List.length_drop, List.length_take]; rfl)) ?_
                            with_reducible refine (cell_Cell_Wait.calls x178000_1 x178001_1 x178002_1 x178003_1 t164 t165 t166 t167 (wrap64 (x11_1 + t181)) (wrap64 ((Int.tmod (Go.bits .and .i64 ((rd_T40 l2 x32_1).f1) 31) t156) + 1)) t184 _ A40.out).mono ?_
                            rintro e w68 ⟨rfl, hb⟩
                            refine ⟨_, rfl, ?_⟩
                            have n0_ := Aside0.mk (blk_below (g := gb152) (o := .cells #[.int .i64 a0_0, .int .i64 a0_1, .int .i64 a0_2] 23 (0, 0)) (by (with_reducible repeat (first | refine blk_drewN ?_ _ | refine blk_drew ?_ | refine blk_alloc ?_ _)); exact BK152.out) hb)
                            have n1_ := Aside0.mk (blk_below (g := gb163) (o := .cells #[.int .i64 t154, .int .i64 t155, .int .i64 t156, .int .i64 t157, .int .i64 t158, .int .i64 t159, .int .i64 t160, .int .i64 t161, .bool t162] 28 (0, 0)) (by (with_reducible repeat (first | refine blk_drewN ?_ _ | refine blk_drew ?_ | refine blk_alloc ?_ _)); exact BK163.out) hb)
                            have n2_ := Aside0.mk (blk_below (g := gb168) (o := .cells #[.int .i64 t164, .int .i64 t165, .int .i64 t166, .int .i64 t167] 31 (0, 0)) (by (with_reducible repeat (first | refine blk_drewN ?_ _ | refine blk_drew ?_ | refine blk_alloc ?_ _)); exact BK168.out) hb)
                            have n3_ := Aside0.mk (IsS36.below (by repeat (first | (with_reducible first | exact HI177.out | apply IsS36.alloc | apply IsS36.drewN | apply IsS36.drew | apply IsS36.set_0 | apply IsS36.set_1 | apply IsS36.set_2 | apply IsS36.set_3 | refine IsS36.far ?_ NB177_152.out _ | refine IsS36.far ?_ NB177_163.out _ | refine IsS36.far ?_ NB177_168.out _ | refine IsS36.far ?_ NB177_180.out _ | refine IsS36.far ?_ NB177_178.out _) | exact HI177.out)) hb)
                            have n4_ := Aside0.mk (IsS36.below (by repeat (first | (with_reducible first | exact HI178.out | apply IsS36.alloc | apply IsS36.drewN | apply IsS36.drew | apply IsS36.set_0 | apply IsS36.set_1 | apply IsS36.set_2 | apply IsS36.set_3 | refine IsS36.far ?_ NB178_152.out _ | refine IsS36.far ?_ NB178_163.out _ | refine IsS36.far ?_ NB178_168.out _ | refine IsS36.far ?_ NB178_180.out _ | refine IsS36.far ?_ NB178_177.out _) | exact HI178.out)) hb)
                            have n5_ := Aside0.mk (blk_below (g := gb180) (o := .cells #[.int .i64 ((rd_T40 l2 x32_1).f0), .int .i64 ((rd_T40 l2 x32_1).f1)] 40 (0, 0)) (by (with_reducible repeat (first | refine blk_drewN ?_ _ | refine blk_drew ?_ | refine blk_alloc ?_ _)); exact BK180.out) hb)
                            have n6_ := Aside0.mk (below_step (by repeat (first | (with_reducible first | exact HB.out | apply below_alloc | apply pw_below_drewN | apply below_drew1 | refine below_set ?_ (IsS36.ge HI177.out) | refine below_set ?_ (IsS36.ge HI178.out) | refine below_set ?_ GE152.out | refine below_set ?_ GE163.out | refine below_set ?_ GE168.out | refine below_set ?_ GE180.out) | exact HB.out)) hb)
                            clear BK152
                            clear BK163
                            clear BK168
                            clear HI177
                            clear HI178
                            clear BK180
                            clear HB
                            have BK152 := n0_
                            have BK163 := n1_
                            have BK168 := n2_
                            have HI177 := n3_
                            have HI178 := n4_
                            have BK180 := n5_
                            have HB := n6_
                            clear n0_ n1_ n2_ n3_ n4_ n5_ n6_
                            (try clear hb)
                            (try clear hb2)
                            (try clear hk)
                            (try clear hi)
                            refine hK.out _ _ ⟨(blk_cell (Aside0.mk HI177.out.1).out 0).trans rfl, (blk_cell (Aside0.mk HI177.out.1).out 1).trans rfl, (blk_cell (Aside0.mk HI177.out.1).out 2).trans rfl, (blk_cell (Aside0.mk HI177.out.1).out 3).trans rfl, (blk_cell BK168.out 0).trans rfl, (blk_cell BK168.out 1).trans rfl, (blk_cell BK168.out 2).trans rfl, (blk_cell BK168.out 3).trans rfl, (blk_cell (Aside0.mk HI178.out.1).out 0).trans rfl, (blk_cell (Aside0.mk HI178.out.1).out 1).trans rfl, (blk_cell (Aside0.mk HI178.out.1).out 2).trans rfl, (blk_cell (Aside0.mk HI178.out.1).out 3).trans rfl⟩ (fun hHeld => ?_)
                            clear hK K
                            refine norm_ (a' := ?_) ?_ ?_
                            rotate_left
                            · show Act.put _ (some 64) _ = _
                              simp only [Act.put, List.setIfInBounds_toArray, List.set_cons_zero, List.set_cons_succ, i64_w, i32_w]
                              rfl
                            refine one_ (i := 23) (N := some 71) #[true, true, true, true, true, true, true, true, true, true, true, true, true, true, true, true, true, true, true, true, true, true, true, true, false, false, false, false, false, false, false, false, false, false, false, false, false, false, false, false, false, false, false, false, false, false, false, false, false, false, false, false, false, false, false, false, false, false, false, false, false, false, false, false, false] rfl rfl (one_of HT_.out (by kernel_rfl)) (by decide) (fun K hK => ?_)
                            refine goes_ Try.func19 (by kernel_rfl) rfl #[.agg #[.int .i64 x179000_1, .int .i64 x179001_1, .int .i64 x179002_1, .int .i64 x179003_1], .agg #[.int .i64 t164, .int .i64 t165, .int .i64 t166, .int .i64 t167], .int .i64 (wrap64 ((wrap64 (x11_1 + t181)) + (Go.bits .and .i64 a1 1152921504606846975))), .int .i64 (wrap64 ((Int.tmod (Go.bits .and .i64 ((rd_T40 l2 x32_1).f1) 31) t156) + 1))] (by rfl) rfl rfl (by (try simp only [List.map_toArray, List.map_cons, List.map_nil]); first | done | rfl | (simp only [List.length_drop, List.length_take]; rfl)) ?_
                            with_reducible refine (cell_Cell_Wait.calls x179000_1 x179001_1 x179002_1 x179003_1 t164 t165 t166 t167 (wrap64 ((wrap64 (x11_1 + t181)) + (Go.bits .and .i64 a1 1152921504606846975))) (wrap64 ((Int.tmod (Go.bits .and .i64 ((rd_T40 l2 x32_1).f1) 31) t156) + 1)) t185 _ A41.out).mono ?_
                            rintro e w69 ⟨rfl, hb⟩
                            refine ⟨_, rfl, ?_⟩
                            have n0_ := Aside0.mk (blk_below (g := gb152) (o := .cells #[.int .i64 a0_0, .int .i64 a0_1, .int .i64 a0_2] 23 (0, 0)) (by (with_reducible repeat (first | refine blk_drewN ?_ _ | refine blk_drew ?_ | refine blk_alloc ?_ _)); exact BK152.out) hb)
                            have n1_ := Aside0.mk (blk_below (g := gb163) (o := .cells #[.int .i64 t154, .int .i64 t155, .int .i64 t156, .int .i64 t157, .int .i64 t158, .int .i64 t159, .int .i64 t160, .int .i64 t161, .bool t162] 28 (0, 0)) (by (with_reducible repeat (first | refine blk_drewN ?_ _ | refine blk_drew ?_ | refine blk_alloc ?_ _)); exact BK163.out) hb)
                            have n2_ := Aside0.mk (blk_below (g := gb168) (o := .cells #[.int .i64 t164, .int .i64 t165, .int .i64 t166, .int .i64 t167] 31 (0, 0)) (by (with_reducible repeat (first | refine blk_drewN ?_ _ | refine blk_drew ?_ | refine blk_alloc ?_ _)); exact BK168.out) hb)
                            have n3_ := Aside0.mk (IsS36.below (by repeat (first | (with_reducible first | exact HI177.out | apply IsS36.alloc | apply IsS36.drewN | apply IsS36.drew | apply IsS36.set_0 | apply IsS36.set_1 | apply IsS36.set_2 | apply IsS36.set_3 | refine IsS36.far ?_ NB177_152.out _ | refine IsS36.far ?_ NB177_163.out _ | refine IsS36.far ?_ NB177_168.out _ | refine IsS36.far ?_ NB177_180.out _ | refine IsS36.far ?_ NB177_178.out _) | exact HI177.out)) hb)
                            have n4_ := Aside0.mk (IsS36.below (by repeat (first | (with_reducible first | exact HI178.out | apply IsS36.alloc | apply IsS36.drewN | apply IsS36.drew | apply IsS36.set_0 | apply IsS36.set_1 | apply IsS36.set_2 | apply IsS36.set_3 | refine IsS36.far ?_ NB178_152.out _ | refine IsS36.far ?_ NB178_163.out _ | refine IsS36.far ?_ NB178_168.out _ | refine IsS36.far ?_ NB178_180.out _ | refine IsS36.far ?_ NB178_177.out _) | exact HI178.out)) hb)
                            have n5_ := Aside0.mk (blk_below (g := gb180) (o := .cells #[.int .i64 ((rd_T40 l2 x32_1).f0), .int .i64 ((rd_T40 l2 x32_1).f1)] 40 (0, 0)) (by (with_reducible repeat (first | refine blk_drewN ?_ _ | refine blk_drew ?_ | refine blk_alloc ?_ _)); exact BK180.out) hb)
                            have n6_ := Aside0.mk (below_step (by repeat (first | (with_reducible first | exact HB.out | apply below_alloc | apply pw_below_drewN | apply below_drew1 | refine below_set ?_ (IsS36.ge HI177.out) | refine below_set ?_ (IsS36.ge HI178.out) | refine below_set ?_ GE152.out | refine below_set ?_ GE163.out | refine below_set ?_ GE168.out | refine below_set ?_ GE180.out) | exact HB.out)) hb)
                            clear BK152
                            clear BK163
                            clear BK168
                            clear HI177
                            clear HI178
                            clear BK180
                            clear HB
                            have BK152 := n0_
                            have BK163 := n1_
                            have BK168 := n2_
                            have HI177 := n3_
                            have HI178 := n4_
                            have BK180 := n5_
                            have HB := n6_
                            clear n0_ n1_ n2_ n3_ n4_ n5_ n6_
                            (try clear hb)
                            (try clear hb2)
                            (try clear hk)
                            (try clear hi)
                            refine hK.out _ _ ⟨(blk_cell (Aside0.mk HI177.out.1).out 0).trans rfl, (blk_cell (Aside0.mk HI177.out.1).out 1).trans rfl, (blk_cell (Aside0.mk HI177.out.1).out 2).trans rfl, (blk_cell (Aside0.mk HI177.out.1).out 3).trans rfl, (blk_cell BK168.out 0).trans rfl, (blk_cell BK168.out 1).trans rfl, (blk_cell BK168.out 2).trans rfl, (blk_cell BK168.out 3).trans rfl, (blk_cell (Aside0.mk HI178.out.1).out 0).trans rfl, (blk_cell (Aside0.mk HI178.out.1).out 1).trans rfl, (blk_cell (Aside0.mk HI178.out.1).out 2).trans rfl, (blk_cell (Aside0.mk HI178.out.1).out 3).trans rfl⟩ (fun hHeld => ?_)
                            clear hK K
                            refine norm_ (a' := ?_) ?_ ?_
                            rotate_left
                            · show Act.put _ (some 71) _ = _
                              simp only [Act.put, List.setIfInBounds_toArray, List.set_cons_zero, List.set_cons_succ, i64_w, i32_w]
                              rfl
                            refine pure_ (i := 24) (N := some 72) (v := ?_) (a' := ?_) #[true, true, true, true, true, true, true, true, true, true, true, true, true, true, true, true, true, true, true, true, true, true, true, true, true, false, false, false, false, false, false, false, false, false, false, false, false, false, false, false, false, false, false, false, false, false, false, false, false, false, false, false, false, false, false, false, false, false, false, false, false, false, false, false, false] rfl rfl (any_of HT_.out (by kernel_rfl)) (fun _ _ _ h => h) (Or.inl ⟨by rfl, ?_⟩) ?_ ?_
                            rotate_left
                            · intro w'
                              go_simp
                              with_reducible rfl
                            rotate_left
                            · simp only [Act.put, List.setIfInBounds_toArray, List.set_cons_zero, List.set_cons_succ, i64_w, i32_w]
                              rfl
                            refine pure_ (i := 25) (N := some 73) (v := ?_) (a' := ?_) #[true, true, true, true, true, true, true, true, true, true, true, true, true, true, true, true, true, true, true, true, true, true, true, true, true, true, false, false, false, false, false, false, false, false, false, false, false, false, false, false, false, false, false, false, false, false, false, false, false, false, false, false, false, false, false, false, false, false, false, false, false, false, false, false, false] rfl rfl (any_of HT_.out (by kernel_rfl)) (fun _ _ _ h => h) (Or.inl ⟨by rfl, ?_⟩) ?_ ?_
                            rotate_left
                            · intro w'
                              go_simp
                              with_reducible rfl
                            rotate_left
                            · simp only [Act.put, List.setIfInBounds_toArray, List.set_cons_zero, List.set_cons_succ, i64_w, i32_w]
                              rfl
                            refine pure_ (i := 26) (N := some 74) (v := ?_) (a' := ?_) #[true, true, true, true, true, true, true, true, true, true, true, true, true, true, true, true, true, true, true, true, true, true, true, true, true, true, true, false, false, false, false, false, false, false, false, false, false, false, false, false, false, false, false, false, false, false, false, false, false, false, false, false, false, false, false, false, false, false, false, false, false, false, false, false, false] rfl rfl (any_of HT_.out (by kernel_rfl)) (fun _ _ _ h => h) (Or.inl ⟨by rfl, ?_⟩) ?_ ?_
                            rotate_left
                            · intro w'
                              go_simp
                              with_reducible rfl
                            rotate_left
                            · simp only [Act.put, List.setIfInBounds_toArray, List.set_cons_zero, List.set_cons_succ, i64_w, i32_w]
                              rfl
                            refine Phase.switch_ (S' := fun w' => w'.cell? ⟨gb168, 0, none⟩ = some (.int .i64 t164) ∧ w'.cell? ⟨gb168, 1, none⟩ = some (.int .i64 t165) ∧ w'.cell? ⟨gb168, 2, none⟩ = some (.int .i64 t166) ∧ w'.cell? ⟨gb168, 3, none⟩ = some (.int .i64 t167)) [38, 39, 40, 41, 42, 43, 44, 45, 46, 47, 48, 49, 50, 51, 52, 53, 54, 55, 56, 57, 58, 59, 60, 61, 62, 63, 64] rfl (by kernel_rfl) ⟨(blk_cell BK168.out 0).trans rfl, (blk_cell BK168.out 1).trans rfl, (blk_cell BK168.out 2).trans rfl, (blk_cell BK168.out 3).trans rfl⟩ (fun hHeld => ?_)
                            refine pure_ (i := 28) (N := some 76) (v := ?_) (a' := ?_) #[true, true, true, true, true, true, true, true, true, true, true, true, true, true, true, true, true, true, true, true, true, true, true, true, true, true, true, false, true, false, false, false, false, false, false, false, false, false, false, false, false, false, false, false, false, false, false, false, false, false, false, false, false, false, false, false, false, false, false, false, false, false, false, false, false] rfl rfl (any_of HT_.out (by kernel_rfl)) (fun _ _ _ h => h) (Or.inl ⟨by rfl, ?_⟩) ?_ ?_
                            rotate_left
                            · intro w'
                              go_simp
                              with_reducible rfl
                            rotate_left
                            · simp only [Act.put, List.setIfInBounds_toArray, List.set_cons_zero, List.set_cons_succ, i64_w, i32_w]
                              rfl
                            refine pure_ (i := 29) (N := some 77) (v := ?_) (a' := ?_) #[true, true, true, true, true, true, true, true, true, true, true, true, true, true, true, true, true, true, true, true, true, true, true, true, true, true, true, false, true, true, false, false, false, false, false, false, false, false, false, false, false, false, false, false, false, false, false, false, false, false, false, false, false, false, false, false, false, false, false, false, false, false, false, false, false] rfl rfl (any_of HT_.out (by kernel_rfl)) (fun _ _ _ h => h) (Or.inl ⟨by rfl, ?_⟩) ?_ ?_
                            rotate_left
                            · intro w'
                              go_simp
                              with_reducible rfl
                            rotate_left
                            · simp only [Act.put, List.setIfInBounds_toArray, List.set_cons_zero, List.set_cons_succ, i64_w, i32_w]
                              rfl
                            refine pure_ (i := 32) (N := some 80) (v := ?_) (a' := ?_) #[true, true, true, true, true, true, true, true, true, true, true, true, true, true, true, true, true, true, true, true, true, true, true, true, true, true, true, false, true, true, false, false, true, false, false, false, false, false, false, false, false, false, false, false, false, false, false, false, false, false, false, false, false, false, false, false, false, false, false, false, false, false, false, false, false] rfl rfl (any_of HT_.out (by kernel_rfl)) (fun _ _ _ h => h) (Or.inl ⟨by rfl, ?_⟩) ?_ ?_
                            rotate_left
                            · intro w'
                              go_simp
                              with_reducible rfl
                            rotate_left
                            · simp only [Act.put, List.setIfInBounds_toArray, List.set_cons_zero, List.set_cons_succ, i64_w, i32_w]
                              rfl
                            refine pure_ (i := 33) (N := some 81) (v := ?_) (a' := ?_) #[true, true, true, true, true, true, true, true, true, true, true, true, true, true, true, true, true, true, true, true, true, true, true, true, true, true, true, false, true, true, false, false, true, true, false, false, false, false, false, false, false, false, false, false, false, false, false, false, false, false, false, false, false, false, false, false, false, false, false, false, false, false, false, false, false] rfl rfl (any_of HT_.out (by kernel_rfl)) (fun _ _ _ h => h) (Or.inl ⟨by rfl, ?_⟩) ?_ ?_
                            rotate_left
                            · intro w'
                              go_simp
                              with_reducible rfl
                            rotate_left
                            · simp only [Act.put, List.setIfInBounds_toArray, List.set_cons_zero, List.set_cons_succ, i64_w, i32_w]
                              rfl
                            refine pure_ (i := 34) (N := some 82) (v := ?_) (a' := ?_) #[true, true, true, true, true, true, true, true, true, true, true, true, true, true, true, true, true, true, true, true, true, true, true, true, true, true, true, false, true, true, false, false, true, true, true, false, false, false, false, false, false, false, false, false, false, false, false, false, false, false, false, false, false, false, false, false, false, false, false, false, false, false, false, false, false] rfl rfl (any_of HT_.out (by kernel_rfl)) (fun _ _ _ h => h) (Or.inl ⟨by rfl, ?_⟩) ?_ ?_
                            rotate_left
                            · intro w'
                              go_simp
                              with_reducible rfl
                            rotate_left
                            · simp only [Act.put, List.setIfInBounds_toArray, List.set_cons_zero, List.set_cons_succ, i64_w, i32_w]
                              rfl
                            refine pure_ (i := 35) (N := some 83) (v := ?_) (a' := ?_) #[true, true, true, true, true, true, true, true, true, true, true, true, true, true, true, true, true, true, true, true, true, true, true, true, true, true, true, false, true, true, false, false, true, true, true, true, false, false, false, false, false, false, false, false, false, false, false, false, false, false, false, false, false, false, false, false, false, false, false, false, false, false, false, false, false] rfl rfl (any_of HT_.out (by kernel_rfl)) (fun _ _ _ h => h) (Or.inl ⟨by rfl, ?_⟩) ?_ ?_
                            rotate_left
                            · intro w'
                              go_simp
                              with_reducible rfl
                            rotate_left
                            · simp only [Act.put, List.setIfInBounds_toArray, List.set_cons_zero, List.set_cons_succ, i64_w, i32_w]
                              rfl
                            refine take_ (i := 27) (N := some 75) (v := ?_) (a' := ?_) #[true, true, true, true, true, true, true, true, true, true, true, true, true, true, true, true, true, true, true, true, true, true, true, true, true, true, true, true, true, true, false, false, true, true, true, true, false, false, false, false, false, false, false, false, false, false, false, false, false, false, false, false, false, false, false, false, false, false, false, false, false, false, false, false, false] rfl rfl (take_ofW HT_.out HW_.out (by kernel_rfl)) (fun _ _ _ h => h) (Or.inl ⟨by rfl, ?_⟩) hHeld ?_ ?_
                            rotate_left
                            · rintro w' ⟨s0, s1, s2, s3⟩
                              go_simp
                              with_reducible rfl
                            rotate_left
                            · simp only [Act.put, List.setIfInBounds_toArray, List.set_cons_zero, List.set_cons_succ, i64_w, i32_w]
                              rfl
                            refine take_ (i := 31) (N := some 79) (v := ?_) (a' := ?_) #[true, true, true, true, true, true, true, true, true, true, true, true, true, true, true, true, true, true, true, true, true, true, true, true, true, true, true, true, true, true, false, true, true, true, true, true, false, false, false, false, false, false, false, false, false, false, false, false, false, false, false, false, false, false, false, false, false, false, false, false, false, false, false, false, false] rfl rfl (take_ofW HT_.out HW_.out (by kernel_rfl)) (fun _ _ _ h => h) (Or.inl ⟨by rfl, ?_⟩) hHeld ?_ ?_
                            rotate_left
                            · rintro w' ⟨s0, s1, s2, s3⟩
                              go_simp
                              with_reducible rfl
                            rotate_left
                            · simp only [Act.put, List.setIfInBounds_toArray, List.set_cons_zero, List.set_cons_succ, i64_w, i32_w]
                              rfl
                            refine one_ (i := 30) (N := some 78) #[true, true, true, true, true, true, true, true, true, true, true, true, true, true, true, true, true, true, true, true, true, true, true, true, true, true, true, true, true, true, true, true, true, true, true, true, false, false, false, false, false, false, false, false, false, false, false, false, false, false, false, false, false, false, false, false, false, false, false, false, false, false, false, false, false] rfl rfl (one_of HT_.out (by kernel_rfl)) (by decide) (fun K hK => ?_)
                            refine goes_ Try.func21 (by kernel_rfl) rfl #[.pointer (some ⟨gb177, 0, none⟩), .agg #[.int .i64 t164, .int .i64 t165, .int .i64 t166, .int .i64 t167], .int .i64 (wrap64 (x11_1 + t181)), .int .i64 (wrap64 ((Int.tmod (Go.bits .and .i64 ((rd_T40 l2 x32_1).f1) 31) t156) + 1))] (by rfl) rfl rfl (by (try simp only [List.map_toArray, List.map_cons, List.map_nil]); first | done | rfl | (simp only [List.length_drop, List.length_take]; rfl)) ?_
                            with_reducible refine (cell_Cell_Take.calls k1 gb177 x178000_1 x178001_1 x178002_1 x178003_1 t164 t165 t166 t167 (wrap64 (x11_1 + t181)) (wrap64 ((Int.tmod (Go.bits .and .i64 ((rd_T40 l2 x32_1).f1) 31) t156) + 1)) t186 t187 t188 t189 t190 w _ ?side1 ?side2 A43.out).mono ?_
                            (case side1 => repeat (first | (with_reducible first | exact HI177.out | apply IsS36.alloc | apply IsS36.drewN | apply IsS36.drew | apply IsS36.set_0 | apply IsS36.set_1 | apply IsS36.set_2 | apply IsS36.set_3 | refine IsS36.far ?_ NB177_152.out _ | refine IsS36.far ?_ NB177_163.out _ | refine IsS36.far ?_ NB177_168.out _ | refine IsS36.far ?_ NB177_180.out _ | refine IsS36.far ?_ NB177_178.out _) | exact HI177.out))
                            (case side2 => repeat (first | (with_reducible first | exact HB.out | apply below_alloc | apply pw_below_drewN | apply below_drew1 | refine below_set ?_ (IsS36.ge HI177.out) | refine below_set ?_ (IsS36.ge HI178.out) | refine below_set ?_ GE152.out | refine below_set ?_ GE163.out | refine below_set ?_ GE168.out | refine below_set ?_ GE180.out) | exact HB.out))
                            rintro e w70 ⟨rfl, hi, hb, hk⟩
                            refine ⟨_, rfl, ?_⟩
                            have n0_ := Aside0.mk (KeepBut.blk hk (g' := gb152) (o := .cells #[.int .i64 a0_0, .int .i64 a0_1, .int .i64 a0_2] 23 (0, 0)) (by (with_reducible repeat (first | refine blk_drewN ?_ _ | refine blk_drew ?_ | refine blk_alloc ?_ _)); exact BK152.out) NB152_177.out (by simp))
                            have n1_ := Aside0.mk (KeepBut.blk hk (g' := gb163) (o := .cells #[.int .i64 t154, .int .i64 t155, .int .i64 t156, .int .i64 t157, .int .i64 t158, .int .i64 t159, .int .i64 t160, .int .i64 t161, .bool t162] 28 (0, 0)) (by (with_reducible repeat (first | refine blk_drewN ?_ _ | refine blk_drew ?_ | refine blk_alloc ?_ _)); exact BK163.out) NB163_177.out (by simp))
                            have n2_ := Aside0.mk (KeepBut.blk hk (g' := gb168) (o := .cells #[.int .i64 t164, .int .i64 t165, .int .i64 t166, .int .i64 t167] 31 (0, 0)) (by (with_reducible repeat (first | refine blk_drewN ?_ _ | refine blk_drew ?_ | refine blk_alloc ?_ _)); exact BK168.out) NB168_177.out (by simp))
                            have n3_ := Aside0.mk ((show IsS36 w w70 gb178 x179000_1 x179001_1 x179002_1 x179003_1 from ⟨KeepBut.blk hk (show IsS36 w _ gb178 x179000_1 x179001_1 x179002_1 x179003_1 from by repeat (first | (with_reducible first | exact HI178.out | apply IsS36.alloc | apply IsS36.drewN | apply IsS36.drew | apply IsS36.set_0 | apply IsS36.set_1 | apply IsS36.set_2 | apply IsS36.set_3 | refine IsS36.far ?_ NB178_152.out _ | refine IsS36.far ?_ NB178_163.out _ | refine IsS36.far ?_ NB178_168.out _ | refine IsS36.far ?_ NB178_180.out _ | refine IsS36.far ?_ NB178_177.out _) | exact HI178.out)).1 NB178_177.out (by simp), (HI178.out).2⟩))
                            have n4_ := Aside0.mk (KeepBut.blk hk (g' := gb180) (o := .cells #[.int .i64 ((rd_T40 l2 x32_1).f0), .int .i64 ((rd_T40 l2 x32_1).f1)] 40 (0, 0)) (by (with_reducible repeat (first | refine blk_drewN ?_ _ | refine blk_drew ?_ | refine blk_alloc ?_ _)); exact BK180.out) NB180_177.out (by simp))
                            have n5_ := Aside0.mk (hb)
                            have n6_ := Aside0.mk (hi)
                            clear BK152
                            clear BK163
                            clear BK168
                            clear HI178
                            clear BK180
                            clear HB
                            clear HI177
                            have BK152 := n0_
                            have BK163 := n1_
                            have BK168 := n2_
                            have HI178 := n3_
                            have BK180 := n4_
                            have HB := n5_
                            have HI177 := n6_
                            clear n0_ n1_ n2_ n3_ n4_ n5_ n6_
                            (try clear hb)
                            (try clear hb2)
                            (try clear hk)
                            (try clear hi)
                            refine hK.out _ _ ⟨(blk_cell BK168.out 0).trans rfl, (blk_cell BK168.out 1).trans rfl, (blk_cell BK168.out 2).trans rfl, (blk_cell BK168.out 3).trans rfl⟩ (fun hHeld => ?_)
                            clear hK K
                            refine norm_ (a' := ?_) ?_ ?_
                            rotate_left
                            · show Act.put _ (some 78) _ = _
                              simp only [Act.put, List.setIfInBounds_toArray, List.set_cons_zero, List.set_cons_succ, i64_w, i32_w]
                              rfl
                            refine one_ (i := 36) (N := some 84) #[true, true, true, true, true, true, true, true, true, true, true, true, true, true, true, true, true, true, true, true, true, true, true, true, true, true, true, true, true, true, true, true, true, true, true, true, true, false, false, false, false, false, false, false, false, false, false, false, false, false, false, false, false, false, false, false, false, false, false, false, false, false, false, false, false] rfl rfl (one_of HT_.out (by kernel_rfl)) (by decide) (fun K hK => ?_)
                            refine goes_ Try.func21 (by kernel_rfl) rfl #[.pointer (some ⟨gb178, 0, none⟩), .agg #[.int .i64 t164, .int .i64 t165, .int .i64 t166, .int .i64 t167], .int .i64 (wrap64 ((wrap64 (x11_1 + t181)) + (Go.bits .and .i64 a1 1152921504606846975))), .int .i64 (wrap64 ((Int.tmod (Go.bits .and .i64 ((rd_T40 l2 x32_1).f1) 31) t156) + 1))] (by rfl) rfl rfl (by (try simp only [List.map_toArray, List.map_cons, List.map_nil]); first | done | rfl | (simp only [List.length_drop, List.length_take]; rfl)) ?_
                            with_reducible refine (cell_Cell_Take.calls k1 gb178 x179000_1 x179001_1 x179002_1 x179003_1 t164 t165 t166 t167 (wrap64 ((wrap64 (x11_1 + t181)) + (Go.bits .and .i64 a1 1152921504606846975))) (wrap64 ((Int.tmod (Go.bits .and .i64 ((rd_T40 l2 x32_1).f1) 31) t156) + 1)) t191 t192 t193 t194 t195 w _ ?side1 ?side2 A44.out).mono ?_
                            (case side1 => repeat (first | (with_reducible first | exact HI178.out | apply IsS36.alloc | apply IsS36.drewN | apply IsS36.drew | apply IsS36.set_0 | apply IsS36.set_1 | apply IsS36.set_2 | apply IsS36.set_3 | refine IsS36.far ?_ NB178_152.out _ | refine IsS36.far ?_ NB178_163.out _ | refine IsS36.far ?_ NB178_168.out _ | refine IsS36.far ?_ NB178_180.out _ | refine IsS36.far ?_ NB178_177.out _) | exact HI178.out))
                            (case side2 => repeat (first | (with_reducible first | exact HB.out | apply below_alloc | apply pw_below_drewN | apply below_drew1 | refine below_set ?_ (IsS36.ge HI177.out) | refine below_set ?_ (IsS36.ge HI178.out) | refine below_set ?_ GE152.out | refine below_set ?_ GE163.out | refine below_set ?_ GE168.out | refine below_set ?_ GE180.out) | exact HB.out))
                            rintro e w71 ⟨rfl, hi, hb, hk⟩
                            refine ⟨_, rfl, ?_⟩
                            have n0_ := Aside0.mk (KeepBut.blk hk (g' := gb152) (o := .cells #[.int .i64 a0_0, .int .i64 a0_1, .int .i64 a0_2] 23 (0, 0)) (by (with_reducible repeat (first | refine blk_drewN ?_ _ | refine blk_drew ?_ | refine blk_alloc ?_ _)); exact BK152.out) NB152_178.out (by simp))
                            have n1_ := Aside0.mk (KeepBut.blk hk (g' := gb163) (o := .cells #[.int .i64 t154, .int .i64 t155, .int .i64 t156, .int .i64 t157, .int .i64 t158, .int .i64 t159, .int .i64 t160, .int .i64 t161, .bool t162] 28 (0, 0)) (by (with_reducible repeat (first | refine blk_drewN ?_ _ | refine blk_drew ?_ | refine blk_alloc ?_ _)); exact BK163.out) NB163_178.out (by simp))
                            have n2_ := Aside0.mk (KeepBut.blk hk (g' := gb168) (o := .cells #[.int .i64 t164, .int .i64 t165, .int .i64 t166, .int .i64 t167] 31 (0, 0)) (by (with_reducible repeat (first | refine blk_drewN ?_ _ | refine blk_drew ?_ | refine blk_alloc ?_ _)); exact BK168.out) NB168_178.out (by simp))
                            have n3_ := Aside0.mk ((show IsS36 w w71 gb177 t187 t188 t189 t190 from ⟨KeepBut.blk hk (show IsS36 w _ gb177 t187 t188 t189 t190 from by repeat (first | (with_reducible first | exact HI177.out | apply IsS36.alloc | apply IsS36.drewN | apply IsS36.drew | apply IsS36.set_0 | apply IsS36.set_1 | apply IsS36.set_2 | apply IsS36.set_3 | refine IsS36.far ?_ NB177_152.out _ | refine IsS36.far ?_ NB177_163.out _ | refine IsS36.far ?_ NB177_168.out _ | refine IsS36.far ?_ NB177_180.out _ | refine IsS36.far ?_ NB177_178.out _) | exact HI177.out)).1 NB177_178.out (by simp), (HI177.out).2⟩))
                            have n4_ := Aside0.mk (KeepBut.blk hk (g' := gb180) (o := .cells #[.int .i64 ((rd_T40 l2 x32_1).f0), .int .i64 ((rd_T40 l2 x32_1).f1)] 40 (0, 0)) (by (with_reducible repeat (first | refine blk_drewN ?_ _ | refine blk_drew ?_ | refine blk_alloc ?_ _)); exact BK180.out) NB180_178.out (by simp))
                            have n5_ := Aside0.mk (hb)
                            have n6_ := Aside0.mk (hi)
                            clear BK152
                            clear BK163
                            clear BK168
                            clear HI177
                            clear BK180
                            clear HB
                            clear HI178
                            have BK152 := n0_
                            have BK163 := n1_
                            have BK168 := n2_
                            have HI177 := n3_
                            have BK180 := n4_
                            have HB := n5_
                            have HI178 := n6_
                            clear n0_ n1_ n2_ n3_ n4_ n5_ n6_
                            (try clear hb)
                            (try clear hb2)
                            (try clear hk)
                            (try clear hi)
                            refine hK.out _ _ ⟨(blk_cell BK168.out 0).trans rfl, (blk_cell BK168.out 1).trans rfl, (blk_cell BK168.out 2).trans rfl, (blk_cell BK168.out 3).trans rfl⟩ (fun hHeld => ?_)
                            clear hK K
                            refine norm_ (a' := ?_) ?_ ?_
                            rotate_left
                            · show Act.put _ (some 84) _ = _
                              simp only [Act.put, List.setIfInBounds_toArray, List.set_cons_zero, List.set_cons_succ, i64_w, i32_w]
                              rfl
                            refine pure_ (i := 37) (N := some 85) (v := ?_) (a' := ?_) #[true, true, true, true, true, true, true, true, true, true, true, true, true, true, true, true, true, true, true, true, true, true, true, true, true, true, true, true, true, true, true, true, true, true, true, true, true, true, false, false, false, false, false, false, false, false, false, false, false, false, false, false, false, false, false, false, false, false, false, false, false, false, false, false, false] rfl rfl (any_of HT_.out (by kernel_rfl)) (fun _ _ _ h => h) (Or.inl ⟨by rfl, ?_⟩) ?_ ?_
                            rotate_left
                            · intro w'
                              go_simp
                              with_reducible rfl
                            rotate_left
                            · simp only [Act.put, List.setIfInBounds_toArray, List.set_cons_zero, List.set_cons_succ, i64_w, i32_w]
                              rfl
                            refine Phase.switch_ (S' := fun w' => w'.cell? ⟨gb177, 0, none⟩ = some (.int .i64 t187) ∧ w'.cell? ⟨gb177, 1, none⟩ = some (.int .i64 t188) ∧ w'.cell? ⟨gb177, 2, none⟩ = some (.int .i64 t189) ∧ w'.cell? ⟨gb177, 3, none⟩ = some (.int .i64 t190) ∧ w'.cell? ⟨gb168, 0, none⟩ = some (.int .i64 t164) ∧ w'.cell? ⟨gb168, 1, none⟩ = some (.int .i64 t165) ∧ w'.cell? ⟨gb168, 2, none⟩ = some (.int .i64 t166) ∧ w'.cell? ⟨gb168, 3, none⟩ = some (.int .i64 t167) ∧ w'.cell? ⟨gb178, 0, none⟩ = some (.int .i64 t192) ∧ w'.cell? ⟨gb178, 1, none⟩ = some (.int .i64 t193) ∧ w'.cell? ⟨gb178, 2, none⟩ = some (.int .i64 t194) ∧ w'.cell? ⟨gb178, 3, none⟩ = some (.int .i64 t195)) [] rfl (by kernel_rfl) ⟨(blk_cell (Aside0.mk HI177.out.1).out 0).trans rfl, (blk_cell (Aside0.mk HI177.out.1).out 1).trans rfl, (blk_cell (Aside0.mk HI177.out.1).out 2).trans rfl, (blk_cell (Aside0.mk HI177.out.1).out 3).trans rfl, (blk_cell BK168.out 0).trans rfl, (blk_cell BK168.out 1).trans rfl, (blk_cell BK168.out 2).trans rfl, (blk_cell BK168.out 3).trans rfl, (blk_cell (Aside0.mk HI178.out.1).out 0).trans rfl, (blk_cell (Aside0.mk HI178.out.1).out 1).trans rfl, (blk_cell (Aside0.mk HI178.out.1).out 2).trans rfl, (blk_cell (Aside0.mk HI178.out.1).out 3).trans rfl⟩ (fun hHeld => ?_)
                            refine pure_ (i := 38) (N := some 86) (v := ?_) (a' := ?_) #[true, true, true, true, true, true, true, true, true, true, true, true, true, true, true, true, true, true, true, true, true, true, true, true, true, true, true, true, true, true, true, true, true, true, true, true, true, true, true, false, false, false, false, false, false, false, false, false, false, false, false, false, false, false, false, false, false, false, false, false, false, false, false, false, false] rfl rfl (any_of HT_.out (by kernel_rfl)) (fun _ _ _ h => h) (Or.inl ⟨by rfl, ?_⟩) ?_ ?_
                            rotate_left
                            · intro w'
                              go_simp
                              with_reducible rfl
                            rotate_left
                            · simp only [Act.put, List.setIfInBounds_toArray, List.set_cons_zero, List.set_cons_succ, i64_w, i32_w]
                              rfl
                            refine pure_ (i := 39) (N := some 87) (v := ?_) (a' := ?_) #[true, true, true, true, true, true, true, true, true, true, true, true, true, true, true, true, true, true, true, true, true, true, true, true, true, true, true, true, true, true, true, true, true, true, true, true, true, true, true, true, false, false, false, false, false, false, false, false, false, false, false, false, false, false, false, false, false, false, false, false, false, false, false, false, false] rfl rfl (any_of HT_.out (by kernel_rfl)) (fun _ _ _ h => h) (Or.inl ⟨by rfl, ?_⟩) ?_ ?_
                            rotate_left
                            · intro w'
                              go_simp
                              with_reducible rfl
                            rotate_left
                            · simp only [Act.put, List.setIfInBounds_toArray, List.set_cons_zero, List.set_cons_succ, i64_w, i32_w]
                              rfl
                            refine pure_ (i := 42) (N := some 90) (v := ?_) (a' := ?_) #[true, true, true, true, true, true, true, true, true, true, true, true, true, true, true, true, true, true, true, true, true, true, true, true, true, true, true, true, true, true, true, true, true, true, true, true, true, true, true, true, false, false, true, false, false, false, false, false, false, false, false, false, false, false, false, false, false, false, false, false, false, false, false, false, false] rfl rfl (any_of HT_.out (by kernel_rfl)) (fun _ _ _ h => h) (Or.inl ⟨by rfl, ?_⟩) ?_ ?_
                            rotate_left
                            · intro w'
                              go_simp
                              with_reducible rfl
                            rotate_left
                            · simp only [Act.put, List.setIfInBounds_toArray, List.set_cons_zero, List.set_cons_succ, i64_w, i32_w]
                              rfl
                            refine pure_ (i := 46) (N := some 94) (v := ?_) (a' := ?_) #[true, true, true, true, true, true, true, true, true, true, true, true, true, true, true, true, true, true, true, true, true, true, true, true, true, true, true, true, true, true, true, true, true, true, true, true, true, true, true, true, false, false, true, false, false, false, true, false, false, false, false, false, false, false, false, false, false, false, false, false, false, false, false, false, false] rfl rfl (any_of HT_.out (by kernel_rfl)) (fun _ _ _ h => h) (Or.inl ⟨by rfl, ?_⟩) ?_ ?_
                            rotate_left
                            · intro w'
                              go_simp
                              with_reducible rfl
                            rotate_left
                            · simp only [Act.put, List.setIfInBounds_toArray, List.set_cons_zero, List.set_cons_succ, i64_w, i32_w]
                              rfl
                            refine pure_ (i := 47) (N := some 95) (v := ?_) (a' := ?_) #[true, true, true, true, true, true, true, true, true, true, true, true, true, true, true, true, true, true, true, true, true, true, true, true, true, true, true, true, true, true, true, true, true, true, true, true, true, true, true, true, false, false, true, false, false, false, true, true, false, false, false, false, false, false, false, false, false, false, false, false, false, false, false, false, false] rfl rfl (any_of HT_.out (by kernel_rfl)) (fun _ _ _ h => h) (Or.inl ⟨by rfl, ?_⟩) ?_ ?_
                            rotate_left
                            · intro w'
                              go_simp
                              with_reducible rfl
                            rotate_left
                            · simp only [Act.put, List.setIfInBounds_toArray, List.set_cons_zero, List.set_cons_succ, i64_w, i32_w]
                              rfl
                            refine pure_ (i := 48) (N := some 96) (v := ?_) (a' := ?_) #[true, true, true, true, true, true, true, true, true, true, true, true, true, true, true, true, true, true, true, true, true, true, true, true, true, true, true, true, true, true, true, true, true, true, true, true, true, true, true, true, false, false, true, false, false, false, true, true, true, false, false, false, false, false, false, false, false, false, false, false, false, false, false, false, false] rfl rfl (any_of HT_.out (by kernel_rfl)) (fun _ _ _ h => h) (Or.inl ⟨by rfl, ?_⟩) ?_ ?_
                            rotate_left
                            · intro w'
                              go_simp
                              with_reducible rfl
                            rotate_left
                            · simp only [Act.put, List.setIfInBounds_toArray, List.set_cons_zero, List.set_cons_succ, i64_w, i32_w]
                              rfl
                            refine take_ (i := 40) (N := some 88) (v := ?_) (a' := ?_) #[true, true, true, true, true, true, true, true, true, true, true, true, true, true, true, true, true, true, true, true, true, true, true, true, true, true, true, true, true, true, true, true, true, true, true, true, true, true, true, true, true, false, true, false, false, false, true, true, true, false, false, false, false, false, false, false, false, false, false, false, false, false, false, false, false] rfl rfl (take_ofW HT_.out HW_.out (by kernel_rfl)) (fun _ _ _ h => h) (Or.inl ⟨by rfl, ?_⟩) hHeld ?_ ?_
                            rotate_left
                            · rintro w' ⟨s0, s1, s2, s3, s4, s5, s6, s7, s8, s9, s10, s11⟩
                              go_simp
                              with_reducible rfl
                            rotate_left
                            · simp only [Act.put, List.setIfInBounds_toArray, List.set_cons_zero, List.set_cons_succ, i64_w, i32_w]
                              rfl
                            refine take_ (i := 41) (N := some 89) (v := ?_) (a' := ?_) #[true, true, true, true, true, true, true, true, true, true, true, true, true, true, true, true, true, true, true, true, true, true, true, true, true, true, true, true, true, true, true, true, true, true, true, true, true, true, true, true, true, true, true, false, false, false, true, true, true, false, false, false, false, false, false, false, false, false, false, false, false, false, false, false, false] rfl rfl (take_ofW HT_.out HW_.out (by kernel_rfl)) (fun _ _ _ h => h) (Or.inl ⟨by rfl, ?_⟩) hHeld ?_ ?_
                            rotate_left
                            · rintro w' ⟨s0, s1, s2, s3, s4, s5, s6, s7, s8, s9, s10, s11⟩
                              go_simp
                              with_reducible rfl
                            rotate_left
                            · simp only [Act.put, List.setIfInBounds_toArray, List.set_cons_zero, List.set_cons_succ, i64_w, i32_w]
                              rfl
                            refine take_ (i := 44) (N := some 92) (v := ?_) (a' := ?_) #[true, true, true, true, true, true, true, true, true, true, true, true, true, true, true, true, true, true, true, true, true, true, true, true, true, true, true, true, true, true, true, true, true, true, true, true, true, true, true, true, true, true, true, false, true, false, true, true, true, false, false, false, false, false, false, false, false, false, false, false, false, false, false, false, false] rfl rfl (take_ofW HT_.out HW_.out (by kernel_rfl)) (fun _ _ _ h => h) (Or.inl ⟨by rfl, ?_⟩) hHeld ?_ ?_
                            rotate_left
                            · rintro w' ⟨s0, s1, s2, s3, s4, s5, s6, s7, s8, s9, s10, s11⟩
                              go_simp
                              with_reducible rfl
                            rotate_left
                            · simp only [Act.put, List.setIfInBounds_toArray, List.set_cons_zero, List.set_cons_succ, i64_w, i32_w]
                              rfl
                            refine take_ (i := 45) (N := some 93) (v := ?_) (a' := ?_) #[true, true, true, true, true, true, true, true, true, true, true, true, true, true, true, true, true, true, true, true, true, true, true, true, true, true, true, true, true, true, true, true, true, true, true, true, true, true, true, true, true, true, true, false, true, true, true, true, true, false, false, false, false, false, false, false, false, false, false, false, false, false, false, false, false] rfl rfl (take_ofW HT_.out HW_.out (by kernel_rfl)) (fun _ _ _ h => h) (Or.inl ⟨by rfl, ?_⟩) hHeld ?_ ?_
                            rotate_left
                            · rintro w' ⟨s0, s1, s2, s3, s4, s5, s6, s7, s8, s9, s10, s11⟩
                              go_simp
                              with_reducible rfl
                            rotate_left
                            · simp only [Act.put, List.setIfInBounds_toArray, List.set_cons_zero, List.set_cons_succ, i64_w, i32_w]
                              rfl
                            refine one_ (i := 43) (N := some 91) #[true, true, true, true, true, true, true, true, true, true, true, true, true, true, true, true, true, true, true, true, true, true, true, true, true, true, true, true, true, true, true, true, true, true, true, true, true, true, true, true, true, true, true, true, true, true, true, true, true, false, false, false, false, false, false, false, false, false, false, false, false, false, false, false, false] rfl rfl (one_of HT_.out (by kernel_rfl)) (by decide) (fun K hK => ?_)
                            refine goes_ Try.func23 (by kernel_rfl) rfl #[.agg #[.int .i64 t187, .int .i64 t188, .int .i64 t189, .int .i64 t190], .agg #[.int .i64 t164, .int .i64 t165, .int .i64 t166, .int .i64 t167], .int .i64 (wrap64 (x11_1 + t181))] (by rfl) rfl rfl (by (try simp only [List.map_toArray, List.map_cons, List.map_nil]); first | done | rfl | (simp only [List.length_drop, List.length_take]; rfl)) ?_
                            with_reducible refine (cell_Cell_Bound.calls t187 t188 t189 t190 t164 t165 t166 t167 (wrap64 (x11_1 + t181)) t196 _ A46.out).mono ?_
                            rintro e w72 ⟨rfl, hb⟩
                            refine ⟨_, rfl, ?_⟩
                            have n0_ := Aside0.mk (blk_below (g := gb152) (o := .cells #[.int .i64 a0_0, .int .i64 a0_1, .int .i64 a0_2] 23 (0, 0)) (by (with_reducible repeat (first | refine blk_drewN ?_ _ | refine blk_drew ?_ | refine blk_alloc ?_ _)); exact BK152.out) hb)
                            have n1_ := Aside0.mk (blk_below (g := gb163) (o := .cells #[.int .i64 t154, .int .i64 t155, .int .i64 t156, .int .i64 t157, .int .i64 t158, .int .i64 t159, .int .i64 t160, .int .i64 t161, .bool t162] 28 (0, 0)) (by (with_reducible repeat (first | refine blk_drewN ?_ _ | refine blk_drew ?_ | refine blk_alloc ?_ _)); exact BK163.out) hb)
                            have n2_ := Aside0.mk (blk_below (g := gb168) (o := .cells #[.int .i64 t164, .int .i64 t165, .int .i64 t166, .int .i64 t167] 31 (0, 0)) (by (with_reducible repeat (first | refine blk_drewN ?_ _ | refine blk_drew ?_ | refine blk_alloc ?_ _)); exact BK168.out) hb)
                            have n3_ := Aside0.mk (IsS36.below (by repeat (first | (with_reducible first | exact HI177.out | apply IsS36.alloc | apply IsS36.drewN | apply IsS36.drew | apply IsS36.set_0 | apply IsS36.set_1 | apply IsS36.set_2 | apply IsS36.set_3 | refine IsS36.far ?_ NB177_152.out _ | refine IsS36.far ?_ NB177_163.out _ | refine IsS36.far ?_ NB177_168.out _ | refine IsS36.far ?_ NB177_180.out _ | refine IsS36.far ?_ NB177_178.out _) | exact HI177.out)) hb)
                            have n4_ := Aside0.mk (IsS36.below (by repeat (first | (with_reducible first | exact HI178.out | apply IsS36.alloc | apply IsS36.drewN | apply IsS36.drew | apply IsS36.set_0 | apply IsS36.set_1 | apply IsS36.set_2 | apply IsS36.set_3 | refine IsS36.far ?_ NB178_152.out _ | refine IsS36.far ?_ NB178_163.out _ | refine IsS36.far ?_ NB178_168.out _ | refine IsS36.far ?_ NB178_180.out _ | refine IsS36.far ?_ NB178_177.out _) | exact HI178.out)) hb)
                            have n5_ := Aside0.mk (blk_below (g := gb180) (o := .cells #[.int .i64 ((rd_T40 l2 x32_1).f0), .int .i64 ((rd_T40 l2 x32_1).f1)] 40 (0, 0)) (by (with_reducible repeat (first | refine blk_drewN ?_ _ | refine blk_drew ?_ | refine blk_alloc ?_ _)); exact BK180.out) hb)
                            have n6_ := Aside0.mk (below_step (by repeat (first | (with_reducible first | exact HB.out | apply below_alloc | apply pw_below_drewN | apply below_drew1 | refine below_set ?_ (IsS36.ge HI177.out) | refine below_set ?_ (IsS36.ge HI178.out) | refine below_set ?_ GE152.out | refine below_set ?_ GE163.out | refine below_set ?_ GE168.out | refine below_set ?_ GE180.out) | exact HB.out)) hb)
                            clear BK152
                            clear BK163
                            clear BK168
                            clear HI177
                            clear HI178
                            clear BK180
                            clear HB
                            have BK152 := n0_
                            have BK163 := n1_
                            have BK168 := n2_
                            have HI177 := n3_
                            have HI178 := n4_
                            have BK180 := n5_
                            have HB := n6_
                            clear n0_ n1_ n2_ n3_ n4_ n5_ n6_
                            (try clear hb)
                            (try clear hb2)
                            (try clear hk)
                            (try clear hi)
                            refine hK.out _ _ ⟨(blk_cell (Aside0.mk HI177.out.1).out 0).trans rfl, (blk_cell (Aside0.mk HI177.out.1).out 1).trans rfl, (blk_cell (Aside0.mk HI177.out.1).out 2).trans rfl, (blk_cell (Aside0.mk HI177.out.1).out 3).trans rfl, (blk_cell BK168.out 0).trans rfl, (blk_cell BK168.out 1).trans rfl, (blk_cell BK168.out 2).trans rfl, (blk_cell BK168.out 3).trans rfl, (blk_cell (Aside0.mk HI178.out.1).out 0).trans rfl, (blk_cell (Aside0.mk HI178.out.1).out 1).trans rfl, (blk_cell (Aside0.mk HI178.out.1).out 2).trans rfl, (blk_cell (Aside0.mk HI178.out.1).out 3).trans rfl⟩ (fun hHeld => ?_)
                            clear hK K
                            refine norm_ (a' := ?_) ?_ ?_
                            rotate_left
                            · show Act.put _ (some 91) _ = _
                              simp only [Act.put, List.setIfInBounds_toArray, List.set_cons_zero, List.set_cons_succ, i64_w, i32_w]
                              rfl
                            refine one_ (i := 49) (N := some 97) #[true, true, true, true, true, true, true, true, true, true, true, true, true, true, true, true, true, true, true, true, true, true, true, true, true, true, true, true, true, true, true, true, true, true, true, true, true, true, true, true, true, true, true, true, true, true, true, true, true, true, false, false, false, false, false, false, false, false, false, false, false, false, false, false, false] rfl rfl (one_of HT_.out (by kernel_rfl)) (by decide) (fun K hK => ?_)
                            refine goes_ Try.func23 (by kernel_rfl) rfl #[.agg #[.int .i64 t192, .int .i64 t193, .int .i64 t194, .int .i64 t195], .agg #[.int .i64 t164, .int .i64 t165, .int .i64 t166, .int .i64 t167], .int .i64 (wrap64 ((wrap64 (x11_1 + t181)) + (Go.bits .and .i64 a1 1152921504606846975)))] (by rfl) rfl rfl (by (try simp only [List.map_toArray, List.map_cons, List.map_nil]); first | done | rfl | (simp only [List.length_drop, List.length_take]; rfl)) ?_
                            with_reducible refine (cell_Cell_Bound.calls t192 t193 t194 t195 t164 t165 t166 t167 (wrap64 ((wrap64 (x11_1 + t181)) + (Go.bits .and .i64 a1 1152921504606846975))) t197 _ A47.out).mono ?_
                            rintro e w73 ⟨rfl, hb⟩
                            refine ⟨_, rfl, ?_⟩
                            have n0_ := Aside0.mk (blk_below (g := gb152) (o := .cells #[.int .i64 a0_0, .int .i64 a0_1, .int .i64 a0_2] 23 (0, 0)) (by (with_reducible repeat (first | refine blk_drewN ?_ _ | refine blk_drew ?_ | refine blk_alloc ?_ _)); exact BK152.out) hb)
                            have n1_ := Aside0.mk (blk_below (g := gb163) (o := .cells #[.int .i64 t154, .int .i64 t155, .int .i64 t156, .int .i64 t157, .int .i64 t158, .int .i64 t159, .int .i64 t160, .int .i64 t161, .bool t162] 28 (0, 0)) (by (with_reducible repeat (first | refine blk_drewN ?_ _ | refine blk_drew ?_ | refine blk_alloc ?_ _)); exact BK163.out) hb)
                            have n2_ := Aside0.mk (blk_below (g := gb168) (o := .cells #[.int .i64 t164, .int .i64 t165, .int .i64 t166, .int .i64 t167] 31 (0, 0)) (by (with_reducible repeat (first | refine blk_drewN ?_ _ | refine blk_drew ?_ | refine blk_alloc ?_ _)); exact BK168.out) hb)
                            have n3_ := Aside0.mk (IsS36.below (by repeat (first | (with_reducible first | exact HI177.out | apply IsS36.alloc | apply IsS36.drewN | apply IsS36.drew | apply IsS36.set_0 | apply IsS36.set_1 | apply IsS36.set_2 | apply IsS36.set_3 | refine IsS36.far ?_ NB177_152.out _ | refine IsS36.far ?_ NB177_163.out _ | refine IsS36.far ?_ NB177_168.out _ | refine IsS36.far ?_ NB177_180.out _ | refine IsS36.far ?_ NB177_178.out _) | exact HI177.out)) hb)
                            have n4_ := Aside0.mk (IsS36.below (by repeat (first | (with_reducible first | exact HI178.out | apply IsS36.alloc | apply IsS36.drewN | apply IsS36.drew | apply IsS36.set_0 | apply IsS36.set_1 | apply IsS36.set_2 | apply IsS36.set_3 | refine IsS36.far ?_ NB178_152.out _ | refine IsS36.far ?_ NB178_163.out _ | refine IsS36.far ?_ NB178_168.out _ | refine IsS36.far ?_ NB178_180.out _ | refine IsS36.far ?_ NB178_177.out _) | exact HI178.out)) hb)
                            have n5_ := Aside0.mk (blk_below (g := gb180) (o := .cells #[.int .i64 ((rd_T40 l2 x32_1).f0), .int .i64 ((rd_T40 l2 x32_1).f1)] 40 (0, 0)) (by (with_reducible repeat (first | refine blk_drewN ?_ _ | refine blk_drew ?_ | refine blk_alloc ?_ _)); exact BK180.out) hb)
                            have n6_ := Aside0.mk (below_step (by repeat (first | (with_reducible first | exact HB.out | apply below_alloc | apply pw_below_drewN | apply below_drew1 | refine below_set ?_ (IsS36.ge HI177.out) | refine below_set ?_ (IsS36.ge HI178.out) | refine below_set ?_ GE152.out | refine below_set ?_ GE163.out | refine below_set ?_ GE168.out | refine below_set ?_ GE180.out) | exact HB.out)) hb)
                            clear BK152
                            clear BK163
                            clear BK168
                            clear HI177
                            clear HI178
                            clear BK180
                            clear HB
                            have BK152 := n0_
                            have BK163 := n1_
                            have BK168 := n2_
                            have HI177 := n3_
                            have HI178 := n4_
                            have BK180 := n5_
                            have HB := n6_
                            clear n0_ n1_ n2_ n3_ n4_ n5_ n6_
                            (try clear hb)
                            (try clear hb2)
                            (try clear hk)
                            (try clear hi)
                            refine hK.out _ _ ⟨(blk_cell (Aside0.mk HI177.out.1).out 0).trans rfl, (blk_cell (Aside0.mk HI177.out.1).out 1).trans rfl, (blk_cell (Aside0.mk HI177.out.1).out 2).trans rfl, (blk_cell (Aside0.mk HI177.out.1).out 3).trans rfl, (blk_cell BK168.out 0).trans rfl, (blk_cell BK168.out 1).trans rfl, (blk_cell BK168.out 2).trans rfl, (blk_cell BK168.out 3).trans rfl, (blk_cell (Aside0.mk HI178.out.1).out 0).trans rfl, (blk_cell (Aside0.mk HI178.out.1).out 1).trans rfl, (blk_cell (Aside0.mk HI178.out.1).out 2).trans rfl, (blk_cell (Aside0.mk HI178.out.1).out 3).trans rfl⟩ (fun hHeld => ?_)
                            clear hK K
                            refine norm_ (a' := ?_) ?_ ?_
                            rotate_left
                            · show Act.put _ (some 97) _ = _
                              simp only [Act.put, List.setIfInBounds_toArray, List.set_cons_zero, List.set_cons_succ, i64_w, i32_w]
                              rfl
                            refine pure_ (i := 50) (N := some 98) (v := ?_) (a' := ?_) #[true, true, true, true, true, true, true, true, true, true, true, true, true, true, true, true, true, true, true, true, true, true, true, true, true, true, true, true, true, true, true, true, true, true, true, true, true, true, true, true, true, true, true, true, true, true, true, true, true, true, true, false, false, false, false, false, false, false, false, false, false, false, false, false, false] rfl rfl (any_of HT_.out (by kernel_rfl)) (fun _ _ _ h => h) (Or.inl ⟨by rfl, ?_⟩) ?_ ?_
                            rotate_left
                            · intro w'
                              go_simp
                              with_reducible rfl
                            rotate_left
                            · simp only [Act.put, List.setIfInBounds_toArray, List.set_cons_zero, List.set_cons_succ, i64_w, i32_w]
                              rfl
                            refine pure_ (i := 51) (N := some 99) (v := ?_) (a' := ?_) #[true, true, true, true, true, true, true, true, true, true, true, true, true, true, true, true, true, true, true, true, true, true, true, true, true, true, true, true, true, true, true, true, true, true, true, true, true, true, true, true, true, true, true, true, true, true, true, true, true, true, true, true, false, false, false, false, false, false, false, false, false, false, false, false, false] rfl rfl (any_of HT_.out (by kernel_rfl)) (fun _ _ _ h => h) (Or.inl ⟨by rfl, ?_⟩) ?_ ?_
                            rotate_left
                            · intro w'
                              go_simp
                              with_reducible rfl
                            rotate_left
                            · simp only [Act.put, List.setIfInBounds_toArray, List.set_cons_zero, List.set_cons_succ, i64_w, i32_w]
                              rfl
                            refine pure_ (i := 52) (N := some 100) (v := ?_) (a' := ?_) #[true, true, true, true, true, true, true, true, true, true, true, true, true, true, true, true, true, true, true, true, true, true, true, true, true, true, true, true, true, true, true, true, true, true, true, true, true, true, true, true, true, true, true, true, true, true, true, true, true, true, true, true, true, false, false, false, false, false, false, false, false, false, false, false, false] rfl rfl (any_of HT_.out (by kernel_rfl)) (fun _ _ _ h => h) (Or.inl ⟨by rfl, ?_⟩) ?_ ?_
                            rotate_left
                            · intro w'
                              go_simp
                              with_reducible rfl
                            rotate_left
                            · simp only [Act.put, List.setIfInBounds_toArray, List.set_cons_zero, List.set_cons_succ, i64_w, i32_w]
                              rfl
                            refine pure_ (i := 55) (N := some 103) (v := ?_) (a' := ?_) #[true, true, true, true, true, true, true, true, true, true, true, true, true, true, true, true, true, true, true, true, true, true, true, true, true, true, true, true, true, true, true, true, true, true, true, true, true, true, true, true, true, true, true, true, true, true, true, true, true, true, true, true, true, false, false, true, false, false, false, false, false, false, false, false, false] rfl rfl (any_of HT_.out (by kernel_rfl)) (fun _ _ _ h => h) (Or.inl ⟨by rfl, ?_⟩) ?_ ?_
                            rotate_left
                            · intro w'
                              go_simp
                              with_reducible rfl
                            rotate_left
                            · simp only [Act.put, List.setIfInBounds_toArray, List.set_cons_zero, List.set_cons_succ, i64_w, i32_w]
                              rfl
                            refine pure_ (i := 59) (N := some 107) (v := ?_) (a' := ?_) #[true, true, true, true, true, true, true, true, true, true, true, true, true, true, true, true, true, true, true, true, true, true, true, true, true, true, true, true, true, true, true, true, true, true, true, true, true, true, true, true, true, true, true, true, true, true, true, true, true, true, true, true, true, false, false, true, false, false, false, true, false, false, false, false, false] rfl rfl (any_of HT_.out (by kernel_rfl)) (fun _ _ _ h => h) (Or.inl ⟨by rfl, ?_⟩) ?_ ?_
                            rotate_left
                            · intro w'
                              go_simp
                              with_reducible rfl
                            rotate_left
                            · simp only [Act.put, List.setIfInBounds_toArray, List.set_cons_zero, List.set_cons_succ, i64_w, i32_w]
                              rfl
                            refine pure_ (i := 60) (N := some 108) (v := ?_) (a' := ?_) #[true, true, true, true, true, true, true, true, true, true, true, true, true, true, true, true, true, true, true, true, true, true, true, true, true, true, true, true, true, true, true, true, true, true, true, true, true, true, true, true, true, true, true, true, true, true, true, true, true, true, true, true, true, false, false, true, false, false, false, true, true, false, false, false, false] rfl rfl (any_of HT_.out (by kernel_rfl)) (fun _ _ _ h => h) (Or.inl ⟨by rfl, ?_⟩) ?_ ?_
                            rotate_left
                            · intro w'
                              go_simp
                              with_reducible rfl
                            rotate_left
                            · simp only [Act.put, List.setIfInBounds_toArray, List.set_cons_zero, List.set_cons_succ, i64_w, i32_w]
                              rfl
                            refine pure_ (i := 61) (N := some 109) (v := ?_) (a' := ?_) #[true, true, true, true, true, true, true, true, true, true, true, true, true, true, true, true, true, true, true, true, true, true, true, true, true, true, true, true, true, true, true, true, true, true, true, true, true, true, true, true, true, true, true, true, true, true, true, true, true, true, true, true, true, false, false, true, false, false, false, true, true, true, false, false, false] rfl rfl (any_of HT_.out (by kernel_rfl)) (fun _ _ _ h => h) (Or.inl ⟨by rfl, ?_⟩) ?_ ?_
                            rotate_left
                            · intro w'
                              go_simp
                              with_reducible rfl
                            rotate_left
                            · simp only [Act.put, List.setIfInBounds_toArray, List.set_cons_zero, List.set_cons_succ, i64_w, i32_w]
                              rfl
                            refine take_ (i := 53) (N := some 101) (v := ?_) (a' := ?_) #[true, true, true, true, true, true, true, true, true, true, true, true, true, true, true, true, true, true, true, true, true, true, true, true, true, true, true, true, true, true, true, true, true, true, true, true, true, true, true, true, true, true, true, true, true, true, true, true, true, true, true, true, true, true, false, true, false, false, false, true, true, true, false, false, false] rfl rfl (take_ofW HT_.out HW_.out (by kernel_rfl)) (fun _ _ _ h => h) (Or.inl ⟨by rfl, ?_⟩) hHeld ?_ ?_
                            rotate_left
                            · rintro w' ⟨s0, s1, s2, s3, s4, s5, s6, s7, s8, s9, s10, s11⟩
                              go_simp
                              with_reducible rfl
                            rotate_left
                            · simp only [Act.put, List.setIfInBounds_toArray, List.set_cons_zero, List.set_cons_succ, i64_w, i32_w]
                              rfl
                            refine take_ (i := 54) (N := some 102) (v := ?_) (a' := ?_) #[true, true, true, true, true, true, true, true, true, true, true, true, true, true, true, true, true, true, true, true, true, true, true, true, true, true, true, true, true, true, true, true, true, true, true, true, true, true, true, true, true, true, true, true, true, true, true, true, true, true, true, true, true, true, true, true, false, false, false, true, true, true, false, false, false] rfl rfl (take_ofW HT_.out HW_.out (by kernel_rfl)) (fun _ _ _ h => h) (Or.inl ⟨by rfl, ?_⟩) hHeld ?_ ?_
                            rotate_left
                            · rintro w' ⟨s0, s1, s2, s3, s4, s5, s6, s7, s8, s9, s10, s11⟩
                              go_simp
                              with_reducible rfl
                            rotate_left
                            · simp only [Act.put, List.setIfInBounds_toArray, List.set_cons_zero, List.set_cons_succ, i64_w, i32_w]
                              rfl
                            refine take_ (i := 57) (N := some 105) (v := ?_) (a' := ?_) #[true, true, true, true, true, true, true, true, true, true, true, true, true, true, true, true, true, true, true, true, true, true, true, true, true, true, true, true, true, true, true, true, true, true, true, true, true, true, true, true, true, true, true, true, true, true, true, true, true, true, true, true, true, true, true, true, false, true, false, true, true, true, false, false, false] rfl rfl (take_ofW HT_.out HW_.out (by kernel_rfl)) (fun _ _ _ h => h) (Or.inl ⟨by rfl, ?_⟩) hHeld ?_ ?_
                            rotate_left
                            · rintro w' ⟨s0, s1, s2, s3, s4, s5, s6, s7, s8, s9, s10, s11⟩
                              go_simp
                              with_reducible rfl
                            rotate_left
                            · simp only [Act.put, List.setIfInBounds_toArray, List.set_cons_zero, List.set_cons_succ, i64_w, i32_w]
                              rfl
                            refine take_ (i := 58) (N := some 106) (v := ?_) (a' := ?_) #[true, true, true, true, true, true, true, true, true, true, true, true, true, true, true, true, true, true, true, true, true, true, true, true, true, true, true, true, true, true, true, true, true, true, true, true, true, true, true, true, true, true, true, true, true, true, true, true, true, true, true, true, true, true, true, true, false, true, true, true, true, true, false, false, false] rfl rfl (take_ofW HT_.out HW_.out (by kernel_rfl)) (fun _ _ _ h => h) (Or.inl ⟨by rfl, ?_⟩) hHeld ?_ ?_
                            rotate_left
                            · rintro w' ⟨s0, s1, s2, s3, s4, s5, s6, s7, s8, s9, s10, s11⟩
                              go_simp
                              with_reducible rfl
                            rotate_left
                            · simp only [Act.put, List.setIfInBounds_toArray, List.set_cons_zero, List.set_cons_succ, i64_w, i32_w]
                              rfl
                            refine one_ (i := 56) (N := some 104) #[true, true, true, true, true, true, true, true, true, true, true, true, true, true, true, true, true, true, true, true, true, true, true, true, true, true, true, true, true, true, true, true, true, true, true, true, true, true, true, true, true, true, true, true, true, true, true, true, true, true, true, true, true, true, true, true, true, true, true, true, true, true, false, false, false] rfl rfl (one_of HT_.out (by kernel_rfl)) (by decide) (fun K hK => ?_)
                            refine goes_ Try.func24 (by kernel_rfl) rfl #[.agg #[.int .i64 t187, .int .i64 t188, .int .i64 t189, .int .i64 t190], .agg #[.int .i64 t164, .int .i64 t165, .int .i64 t166, .int .i64 t167], .int .i64 (wrap64 (x11_1 + t181))] (by rfl) rfl rfl (by (try simp only [List.map_toArray, List.map_cons, List.map_nil]); first | done | rfl | (simp only [List.length_drop, List.length_take]; rfl)) ?_
                            with_reducible refine (cell_Cell_Idle.calls t187 t188 t189 t190 t164 t165 t166 t167 (wrap64 (x11_1 + t181)) t198 _ A49.out).mono ?_
                            rintro e w74 ⟨rfl, hb⟩
                            refine ⟨_, rfl, ?_⟩
                            have n0_ := Aside0.mk (blk_below (g := gb152) (o := .cells #[.int .i64 a0_0, .int .i64 a0_1, .int .i64 a0_2] 23 (0, 0)) (by (with_reducible repeat (first | refine blk_drewN ?_ _ | refine blk_drew ?_ | refine blk_alloc ?_ _)); exact BK152.out) hb)
                            have n1_ := Aside0.mk (blk_below (g := gb163) (o := .cells #[.int .i64 t154, .int .i64 t155, .int .i64 t156, .int .i64 t157, .int .i64 t158, .int .i64 t159, .int .i64 t160, .int .i64 t161, .bool t162] 28 (0, 0)) (by (with_reducible repeat (first | refine blk_drewN ?_ _ | refine blk_drew ?_ | refine blk_alloc ?_ _)); exact BK163.out) hb)
                            have n2_ := Aside0.mk (blk_below (g := gb168) (o := .cells #[.int .i64 t164, .int .i64 t165, .int .i64 t166, .int .i64 t167] 31 (0, 0)) (by (with_reducible repeat (first | refine blk_drewN ?_ _ | refine blk_drew ?_ | refine blk_alloc ?_ _)); exact BK168.out) hb)
                            have n3_ := Aside0.mk (IsS36.below (by repeat (first | (with_reducible first | exact HI177.out | apply IsS36.alloc | apply IsS36.drewN | apply IsS36.drew | apply IsS36.set_0 | apply IsS36.set_1 | apply IsS36.set_2 | apply IsS36.set_3 | refine IsS36.far ?_ NB177_152.out _ | refine IsS36.far ?_ NB177_163.out _ | refine IsS36.far ?_ NB177_168.out _ | refine IsS36.far ?_ NB177_180.out _ | refine IsS36.far ?_ NB177_178.out _) | exact HI177.out)) hb)
                            have n4_ := Aside0.mk (IsS36.below (by repeat (first | (with_reducible first | exact HI178.out | apply IsS36.alloc | apply IsS36.drewN | apply IsS36.drew | apply IsS36.set_0 | apply IsS36.set_1 | apply IsS36.set_2 | apply IsS36.set_3 | refine IsS36.far ?_ NB178_152.out _ | refine IsS36.far ?_ NB178_163.out _ | refine IsS36.far ?_ NB178_168.out _ | refine IsS36.far ?_ NB178_180.out _ | refine IsS36.far ?_ NB178_177.out _) | exact HI178.out)) hb)
                            have n5_ := Aside0.mk (blk_below (g := gb180) (o := .cells #[.int .i64 ((rd_T40 l2 x32_1).f0), .int .i64 ((rd_T40 l2 x32_1).f1)] 40 (0, 0)) (by (with_reducible repeat (first | refine blk_drewN ?_ _ | refine blk_drew ?_ | refine blk_alloc ?_ _)); exact BK180.out) hb)
                            have n6_ := Aside0.mk (below_step (by repeat (first | (with_reducible first | exact HB.out | apply below_alloc | apply pw_below_drewN | apply below_drew1 | refine below_set ?_ (IsS36.ge HI177.out) | refine below_set ?_ (IsS36.ge HI178.out) | refine below_set ?_ GE152.out | refine below_set ?_ GE163.out | refine below_set ?_ GE168.out | refine below_set ?_ GE180.out) | exact HB.out)) hb)
                            clear BK152
                            clear BK163
                            clear BK168
                            clear HI177
                            clear HI178
                            clear BK180
                            clear HB
                            have BK152 := n0_
                            have BK163 := n1_
                            have BK168 := n2_
                            have HI177 := n3_
                            have HI178 := n4_
                            have BK180 := n5_
                            have HB := n6_
                            clear n0_ n1_ n2_ n3_ n4_ n5_ n6_
                            (try clear hb)
                            (try clear hb2)
                            (try clear hk)
                            (try clear hi)
                            refine hK.out _ _ ⟨(blk_cell (Aside0.mk HI177.out.1).out 0).trans rfl, (blk_cell (Aside0.mk HI177.out.1).out 1).trans rfl, (blk_cell (Aside0.mk HI177.out.1).out 2).trans rfl, (blk_cell (Aside0.mk HI177.out.1).out 3).trans rfl, (blk_cell BK168.out 0).trans rfl, (blk_cell BK168.out 1).trans rfl, (blk_cell BK168.out 2).trans rfl, (blk_cell BK168.out 3).trans rfl, (blk_cell (Aside0.mk HI178.out.1).out 0).trans rfl, (blk_cell (Aside0.mk HI178.out.1).out 1).trans rfl, (blk_cell (Aside0.mk HI178.out.1).out 2).trans rfl, (blk_cell (Aside0.mk HI178.out.1).out 3).trans rfl⟩ (fun hHeld => ?_)
                            clear hK K
                            refine norm_ (a' := ?_) ?_ ?_
                            rotate_left
                            · show Act.put _ (some 104) _ = _
                              simp only [Act.put, List.setIfInBounds_toArray, List.set_cons_zero, List.set_cons_succ, i64_w, i32_w]
                              rfl
                            refine one_ (i := 62) (N := some 110) #[true, true, true, true, true, true, true, true, true, true, true, true, true, true, true, true, true, true, true, true, true, true, true, true, true, true, true, true, true, true, true, true, true, true, true, true, true, true, true, true, true, true, true, true, true, true, true, true, true, true, true, true, true, true, true, true, true, true, true, true, true, true, true, false, false] rfl rfl (one_of HT_.out (by kernel_rfl)) (by decide) (fun K hK => ?_)
                            refine goes_ Try.func24 (by kernel_rfl) rfl #[.agg #[.int .i64 t192, .int .i64 t193, .int .i64 t194, .int .i64 t195], .agg #[.int .i64 t164, .int .i64 t165, .int .i64 t166, .int .i64 t167], .int .i64 (wrap64 ((wrap64 (x11_1 + t181)) + (Go.bits .and .i64 a1 1152921504606846975)))] (by rfl) rfl rfl (by (try simp only [List.map_toArray, List.map_cons, List.map_nil]); first | done | rfl | (simp only [List.length_drop, List.length_take]; rfl)) ?_
                            with_reducible refine (cell_Cell_Idle.calls t192 t193 t194 t195 t164 t165 t166 t167 (wrap64 ((wrap64 (x11_1 + t181)) + (Go.bits .and .i64 a1 1152921504606846975))) t199 _ A50.out).mono ?_
                            rintro e w75 ⟨rfl, hb⟩
                            refine ⟨_, rfl, ?_⟩
                            have n0_ := Aside0.mk (blk_below (g := gb152) (o := .cells #[.int .i64 a0_0, .int .i64 a0_1, .int .i64 a0_2] 23 (0, 0)) (by (with_reducible repeat (first | refine blk_drewN ?_ _ | refine blk_drew ?_ | refine blk_alloc ?_ _)); exact BK152.out) hb)
                            have n1_ := Aside0.mk (blk_below (g := gb163) (o := .cells #[.int .i64 t154, .int .i64 t155, .int .i64 t156, .int .i64 t157, .int .i64 t158, .int .i64 t159, .int .i64 t160, .int .i64 t161, .bool t162] 28 (0, 0)) (by (with_reducible repeat (first | refine blk_drewN ?_ _ | refine blk_drew ?_ | refine blk_alloc ?_ _)); exact BK163.out) hb)
                            have n2_ := Aside0.mk (blk_below (g := gb168) (o := .cells #[.int .i64 t164, .int .i64 t165, .int .i64 t166, .int .i64 t167] 31 (0, 0)) (by (with_reducible repeat (first | refine blk_drewN ?_ _ | refine blk_drew ?_ | refine blk_alloc ?_ _)); exact BK168.out) hb)
                            have n3_ := Aside0.mk (IsS36.below (by repeat (first | (with_reducible first | exact HI177.out | apply IsS36.alloc | apply IsS36.drewN | apply IsS36.drew | apply IsS36.set_0 | apply IsS36.set_1 | apply IsS36.set_2 | apply IsS36.set_3 | refine IsS36.far ?_ NB177_152.out _ | refine IsS36.far ?_ NB177_163.out _ | refine IsS36.far ?_ NB177_168.out _ | refine IsS36.far ?_ NB177_180.out _ | refine IsS36.far ?_ NB177_178.out _) | exact HI177.out)) hb)
                            have n4_ := Aside0.mk (IsS36.below (by repeat (first | (with_reducible first | exact HI178.out | apply IsS36.alloc | apply IsS36.drewN | apply IsS36.drew | apply IsS36.set_0 | apply IsS36.set_1 | apply IsS36.set_2 | apply IsS36.set_3 | refine IsS36.far ?_ NB178_152.out _ | refine IsS36.far ?_ NB178_163.out _ | refine IsS36.far ?_ NB178_168.out _ | refine IsS36.far ?_ NB178_180.out _ | refine IsS36.far ?_ NB178_177.out _) | exact HI178.out)) hb)
                            have n5_ := Aside0.mk (blk_below (g := gb180) (o := .cells #[.int .i64 ((rd_T40 l2 x32_1).f0), .int .i64 ((rd_T40 l2 x32_1).f1)] 40 (0, 0)) (by (with_reducible repeat (first | refine blk_drewN ?_ _ | refine blk_drew ?_ | refine blk_alloc ?_ _)); exact BK180.out) hb)
                            have n6_ := Aside0.mk (below_step (by repeat (first | (with_reducible first | exact HB.out | apply below_alloc | apply pw_below_drewN | apply below_drew1 | refine below_set ?_ (IsS36.ge HI177.out) | refine below_set ?_ (IsS36.ge HI178.out) | refine below_set ?_ GE152.out | refine below_set ?_ GE163.out | refine below_set ?_ GE168.out | refine below_set ?_ GE180.out) | exact HB.out)) hb)
                            clear BK152
                            clear BK163
                            clear BK168
                            clear HI177
                            clear HI178
                            clear BK180
                            clear HB
                            have BK152 := n0_
                            have BK163 := n1_
                            have BK168 := n2_
                            have HI177 := n3_
                            have HI178 := n4_
                            have BK180 := n5_
                            have HB := n6_
                            clear n0_ n1_ n2_ n3_ n4_ n5_ n6_
                            (try clear hb)
                            (try clear hb2)
                            (try clear hk)
                            (try clear hi)
                            refine hK.out _ _ ⟨(blk_cell (Aside0.mk HI177.out.1).out 0).trans rfl, (blk_cell (Aside0.mk HI177.out.1).out 1).trans rfl, (blk_cell (Aside0.mk HI177.out.1).out 2).trans rfl, (blk_cell (Aside0.mk HI177.out.1).out 3).trans rfl, (blk_cell BK168.out 0).trans rfl, (blk_cell BK168.out 1).trans rfl, (blk_cell BK168.out 2).trans rfl, (blk_cell BK168.out 3).trans rfl, (blk_cell (Aside0.mk HI178.out.1).out 0).trans rfl, (blk_cell (Aside0.mk HI178.out.1).out 1).trans rfl, (blk_cell (Aside0.mk HI178.out.1).out 2).trans rfl, (blk_cell (Aside0.mk HI178.out.1).out 3).trans rfl⟩ (fun hHeld => ?_)
                            clear hK K
                            refine norm_ (a' := ?_) ?_ ?_
                            rotate_left
                            · show Act.put _ (some 110) _ = _
                              simp only [Act.put, List.setIfInBounds_toArray, List.set_cons_zero, List.set_cons_succ, i64_w, i32_w]
                              rfl
                            refine pure_ (i := 63) (N := some 111) (v := ?_) (a' := ?_) #[true, true, true, true, true, true, true, true, true, true, true, true, true, true, true, true, true, true, true, true, true, true, true, true, true, true, true, true, true, true, true, true, true, true, true, true, true, true, true, true, true, true, true, true, true, true, true, true, true, true, true, true, true, true, true, true, true, true, true, true, true, true, true, true, false] rfl rfl (any_of HT_.out (by kernel_rfl)) (fun _ _ _ h => h) (Or.inl ⟨by rfl, ?_⟩) ?_ ?_
                            rotate_left
                            · intro w'
                              go_simp
                              with_reducible rfl
                            rotate_left
                            · simp only [Act.put, List.setIfInBounds_toArray, List.set_cons_zero, List.set_cons_succ, i64_w, i32_w]
                              rfl
                            refine pure_ (i := 64) (N := some 112) (v := ?_) (a' := ?_) #[true, true, true, true, true, true, true, true, true, true, true, true, true, true, true, true, true, true, true, true, true, true, true, true, true, true, true, true, true, true, true, true, true, true, true, true, true, true, true, true, true, true, true, true, true, true, true, true, true, true, true, true, true, true, true, true, true, true, true, true, true, true, true, true, true] rfl rfl (any_of HT_.out (by kernel_rfl)) (fun _ _ _ h => h) (Or.inl ⟨by rfl, ?_⟩) ?_ ?_
                            rotate_left
                            · intro w'
                              go_simp
                              with_reducible rfl
                            rotate_left
                            · simp only [Act.put, List.setIfInBounds_toArray, List.set_cons_zero, List.set_cons_succ, i64_w, i32_w]
                              rfl
                            refine done_ (done_of HT_.out (by kernel_rfl)) ?_
                            try go_wp2
                            go_roundg k1
                            case measure => have := HK1.out; omega
                            case rel => exact ⟨(wrap64 (x11_1 + t181)), (wrap64 (x32_1 + 1)), (t187), (t188), (t189), (t190), (t192), (t193), (t194), (t195), (by first | rfl | (simp; done) | (simp [*]; done)), (by first | rfl | (simp; done) | (simp [*]; done)), H', ⟨by have := HK1.out; omega⟩, ⟨by (with_reducible repeat (first | refine blk_drewN ?_ _ | refine blk_drew ?_ | refine blk_alloc ?_ _)); exact BK152.out⟩, ⟨by (with_reducible repeat (first | refine blk_drewN ?_ _ | refine blk_drew ?_ | refine blk_alloc ?_ _)); exact BK163.out⟩, ⟨by (with_reducible repeat (first | refine blk_drewN ?_ _ | refine blk_drew ?_ | refine blk_alloc ?_ _)); exact BK168.out⟩, ⟨by repeat (first | (with_reducible first | exact HI177.out | apply IsS36.alloc | apply IsS36.drewN | apply IsS36.drew | apply IsS36.set_0 | apply IsS36.set_1 | apply IsS36.set_2 | apply IsS36.set_3 | refine IsS36.far ?_ NB177_152.out _ | refine IsS36.far ?_ NB177_163.out _ | refine IsS36.far ?_ NB177_168.out _ | refine IsS36.far ?_ NB177_180.out _ | refine IsS36.far ?_ NB177_178.out _) | exact HI177.out)⟩, ⟨by repeat (first | (with_reducible first | exact HI178.out | apply IsS36.alloc | apply IsS36.drewN | apply IsS36.drew | apply IsS36.set_0 | apply IsS36.set_1 | apply IsS36.set_2 | apply IsS36.set_3 | refine IsS36.far ?_ NB178_152.out _ | refine IsS36.far ?_ NB178_163.out _ | refine IsS36.far ?_ NB178_168.out _ | refine IsS36.far ?_ NB178_180.out _ | refine IsS36.far ?_ NB178_177.out _) | exact HI178.out)⟩, ⟨by repeat (first | (with_reducible first | exact HB.out | apply below_alloc | apply pw_below_drewN | apply below_drew1 | refine below_set ?_ (IsS36.ge HI177.out) | refine below_set ?_ (IsS36.ge HI178.out) | refine below_set ?_ GE152.out | refine below_set ?_ GE163.out | refine below_set ?_ GE168.out | refine below_set ?_ GE180.out) | exact HB.out)⟩⟩
                          · rw [if_neg c51] at H
                            have c51b0 : (t198 == t199) = false := by simpa using c51
                            (try (have c51b1 : decide (t198 = t199) = false := by simpa using c51))
                            (try (have c51b2 : (t198 == t199) = false := by simpa using c51))
                            (try (have c51b3 : ¬ (t198 = t199) := by simpa using c51))
                            clear c51
                            exact absurd (Option.some.inj H) (by rw [hr_.out]; decide)
                        · rw [if_neg c48] at H
                          have c48b0 : (t196 == t197) = false := beq_eq_false_iff_ne.mpr c48
                          have c48b1 : (t196 != t197) = true := bne_iff_ne.mpr c48
                          exact absurd (Option.some.inj H) (by rw [hr_.out]; decide)
                      · rw [if_neg c45] at H
                        have c45b0 : (t186 == t191) = false := by simpa using c45
                        (try (have c45b1 : decide (t186 = t191) = false := by simpa using c45))
                        (try (have c45b2 : (t186 == t191) = false := by simpa using c45))
                        (try (have c45b3 : ¬ (t186 = t191) := by simpa using c45))
                        clear c45
                        exact absurd (Option.some.inj H) (by rw [hr_.out]; decide)
                    · rw [if_neg c42] at H
                      have c42b0 : (t184 == t185) = false := beq_eq_false_iff_ne.mpr c42
                      have c42b1 : (t184 != t185) = true := bne_iff_ne.mpr c42
                      exact absurd (Option.some.inj H) (by rw [hr_.out]; decide)
                  · rw [if_neg c39] at H
                    have c39b0 : (t182 == t183) = false := beq_eq_false_iff_ne.mpr c39
                    have c39b1 : (t182 != t183) = true := bne_iff_ne.mpr c39
                    exact absurd (Option.some.inj H) (by rw [hr_.out]; decide)
              · rw [if_neg c34] at H
                exact absurd H (by simp)
            · rw [if_neg c33] at H
              exact absurd H (by simp)
          · rw [if_neg c32] at H
            have c32b0 : decide (x32_1 < (l2.length : Int)) = false := decide_eq_false c32
            clear c32
            by_cases c76 : x178003_1 = x179003_1
            · rw [if_pos c76] at H
              have c76b0 : (x178003_1 == x179003_1) = true := beq_iff_eq.mpr c76
              have c76b1 : (x178003_1 != x179003_1) = false := bne_eq_false_iff_eq.mpr c76
              clear c76
              obtain rfl := Option.some.inj H
              (try have hnb77 := NB177_178.out)
              (try have hnc77 := NB178_177.out)
              obtain ⟨HGz78, hgz78⟩ := HI177.out
              have hcz78_0 := cellS36_0 HGz78
              have hcz78_1 := cellS36_1 HGz78
              have hcz78_2 := cellS36_2 HGz78
              have hcz78_3 := cellS36_3 HGz78
              have hfz78_0 := blk_frozen HGz78 0
              have hfz78_1 := blk_frozen HGz78 1
              have hfz78_2 := blk_frozen HGz78 2
              have hfz78_3 := blk_frozen HGz78 3
              clear HGz78 hgz78
              obtain ⟨HGz79, hgz79⟩ := HI178.out
              have hcz79_0 := cellS36_0 HGz79
              have hcz79_1 := cellS36_1 HGz79
              have hcz79_2 := cellS36_2 HGz79
              have hcz79_3 := cellS36_3 HGz79
              have hfz79_0 := blk_frozen HGz79 0
              have hfz79_1 := blk_frozen HGz79 1
              have hfz79_2 := blk_frozen HGz79 2
              have hfz79_3 := blk_frozen HGz79 3
              clear HGz79 hgz79
              go_wp2
              go_ret
              exact ⟨by first | rfl | (simp [errW_none, errW_some] <;> rfl) | (simp [*, errW_none, errW_some] <;> rfl), by repeat (first | (with_reducible first | exact HB.out | apply below_alloc | apply pw_below_drewN | apply below_drew1 | refine below_set ?_ (IsS36.ge HI177.out) | refine below_set ?_ (IsS36.ge HI178.out) | refine below_set ?_ GE152.out | refine below_set ?_ GE163.out | refine below_set ?_ GE168.out) | exact HB.out)⟩
            · rw [if_neg c76] at H
              have c76b0 : (x178003_1 == x179003_1) = false := beq_eq_false_iff_ne.mpr c76
              have c76b1 : (x178003_1 != x179003_1) = true := bne_iff_ne.mpr c76
              exact absurd (Option.some.inj H) (by rw [hr_.out]; decide)
  · replace c5 := Bool.eq_false_iff.mpr c5
    subst c5
    have H1 : (some false) = some r := by rw [if_neg (show ¬ (false = true) by decide)] at H; exact H
    clear H
    have H := H1
    clear H1
    exact absurd (Option.some.inj H) (by rw [hr_.out]; decide)

/-- THE ONE PURE STATEMENT of weighbridgelaw09_CellShift. -/
def weighbridgelaw09_CellShift.Pure : Prop := ∀ (a0_0 : Int) (a0_1 : Int) (a0_2 : Int) (a1 : Int) (l2 : List (S40)), (Lit.int .i64 a0_0).wf = true → (Lit.int .i64 a0_1).wf = true → (Lit.int .i64 a0_2).wf = true → (Lit.int .i64 a1).wf = true → l2.length ≤ maxLen → (∀ x ∈ l2, ((Lit.int .i64 x.f0).wf = true ∧ (Lit.int .i64 x.f1).wf = true)) → ∃ k, weighbridgelaw09_CellShift.f k a0_0 a0_1 a0_2 a1 l2 = some true
theorem weighbridgelaw09_CellShift.walk (P : weighbridgelaw09_CellShift.Pure) (a0_0 : Int) (a0_1 : Int) (a0_2 : Int) (a1 : Int) (A2 : Option Addr) (c2 : Nat) (l2 : List (S40)) (w : World) (hr2 : Kd.C k40 w A2 l2.length l2) (hc2 : l2.length ≤ c2) (g0 : (Lit.int .i64 a0_0).wf = true) (g1 : (Lit.int .i64 a0_1).wf = true) (g2 : (Lit.int .i64 a0_2).wf = true) (g3 : (Lit.int .i64 a1).wf = true) (g4 : l2.length ≤ maxLen) (g5 : (∀ x ∈ l2, ((Lit.int .i64 x.f0).wf = true ∧ (Lit.int .i64 x.f1).wf = true))) :
    Calls Try.prog 10 #[.agg #[.int .i64 a0_0, .int .i64 a0_1, .int .i64 a0_2], .int .i64 a1, .slice A2 l2.length c2] w fun e w' => e = .returned (.bool true) ∧ Below w.heap.size w w' := by
  obtain ⟨k, h⟩ := P a0_0 a0_1 a0_2 a1 l2 g0 g1 g2 g3 g4 g5
  refine (weighbridgelaw09_CellShift.calls k a0_0 a0_1 a0_2 a1 A2 c2 l2 true w hr2 hc2 (Aside0.mk rfl) h).mono ?_
  rintro e w' ⟨rfl, hd⟩
  exact ⟨rfl, hd⟩

end Go.Proofs.Ytdnimnlnicnjnaa.QCellShift
