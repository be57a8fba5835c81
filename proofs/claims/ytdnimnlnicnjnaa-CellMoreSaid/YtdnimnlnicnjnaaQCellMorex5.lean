-- Laid by a program of this session (wip/myprint.py, over the kit's print.py): a walk of the code and what it computes.
import Derived.Test.YtdnimnlnicnjnaaQCellMorex0
import Derived.Test.YtdnimnlnicnjnaaQCellMorex1
import Derived.Test.YtdnimnlnicnjnaaQCellMorex2
import Derived.Test.YtdnimnlnicnjnaaQCellMorex3
import Derived.Test.YtdnimnlnicnjnaaQCellMorex4
namespace Go.Proofs.Ytdnimnlnicnjnaa.QCellMore
open Go.RowKit Go.Proofs.YtdnimnlnicnjnaaW.PrintWords Go.Proofs.YtdnimnlnicnjnaaW.PrintLast Go.Proofs.YtdnimnlnicnjnaaW.PrintMore
attribute [local go_sem] max2_int min2_int max_two min_two max_three min_three max_four min_four   -- for this text's walks alone
set_option linter.unusedVariables false
set_option linter.unusedSimpArgs false

/-! ### weighbridgelaw09_CellMore: function 6 -/
mutual
def weighbridgelaw09_CellMore.l0 : Nat → Int → List (S40) → Int → Int → Int → Int → Int → Int → Int → Int → Int → Int → Bool → Int → Int → Int → Int → Int → Int → Int → Int → Option (Bool)
  | 0, _, _, _, _, _, _, _, _, _, _, _, _, _, _, _, _, _, _, _, _, _ => none
  | k + 1, x8, x23, x24, x25, x158000, x158001, x158002, x158003, x158004, x158005, x158006, x158007, x158008, x163000, x163001, x163002, x163003, x168000, x168001, x168002, x168003 => if x25 < x24 then (if 0 ≤ x25 then (if x25 < (x23.length : Int) then ((weighbridgelaw09_gap.f ((rd_T40 x23 x25).f0)).bind fun t171 => ((cell_Cell_Room.f k x168000 x168001 x168002 x168003 x163000 x163001 x163002 x163003 (wrap64 (x8 + t171))).bind fun t172 => (if t172 < 0 then (weighbridgelaw09_CellMore.j1 k (wrap64 (x8 + t171)) t172 x23 x24 x25 true x158000 x158001 x158002 x158003 x158004 x158005 x158006 x158007 x158008 x163000 x163001 x163002 x163003 x168000 x168001 x168002 x168003 ((rd_T40 x23 x25).f0) ((rd_T40 x23 x25).f1)) else (if t172 > x158002 then (weighbridgelaw09_CellMore.j1 k (wrap64 (x8 + t171)) t172 x23 x24 x25 true x158000 x158001 x158002 x158003 x158004 x158005 x158006 x158007 x158008 x163000 x163001 x163002 x163003 x168000 x168001 x168002 x168003 ((rd_T40 x23 x25).f0) ((rd_T40 x23 x25).f1)) else ((cell_Cell_Room.f k x168000 x168001 x168002 x168003 x163000 x163001 x163002 x163003 (wrap64 ((wrap64 (x8 + t171)) + 3))).bind fun t173 => (weighbridgelaw09_CellMore.j1 k (wrap64 (x8 + t171)) t172 x23 x24 x25 (decide (t173 < t172)) x158000 x158001 x158002 x158003 x158004 x158005 x158006 x158007 x158008 x163000 x163001 x163002 x163003 x168000 x168001 x168002 x168003 ((rd_T40 x23 x25).f0) ((rd_T40 x23 x25).f1))))))) else (none)) else (none)) else ((cell_Cell_Room.f k x168000 x168001 x168002 x168003 x163000 x163001 x163002 x163003 (wrap64 ((wrap64 (x8 + (wrap64 (2 * x158001)))) + (wrap64 (x158002 * x163000))))).bind fun t168 => (some (t168 == x158002)))
def weighbridgelaw09_CellMore.j1 : Nat → Int → Int → List (S40) → Int → Int → Bool → Int → Int → Int → Int → Int → Int → Int → Int → Bool → Int → Int → Int → Int → Int → Int → Int → Int → Int → Int → Option (Bool)
  | 0, _, _, _, _, _, _, _, _, _, _, _, _, _, _, _, _, _, _, _, _, _, _, _, _, _ => none
  | k + 1, x8, x11, x23, x24, x25, x54, x158000, x158001, x158002, x158003, x158004, x158005, x158006, x158007, x158008, x163000, x163001, x163002, x163003, x168000, x168001, x168002, x168003, x171000, x171001 => if x54 = true then (some false) else (if x158002 = 0 then (none) else ((cell_Cell_Take.f k x168000 x168001 x168002 x168003 x163000 x163001 x163002 x163003 x8 (wrap64 ((Int.tmod (Go.bits .and .i64 x171001 31) x158002) + 1))).bind fun bt174 => (if (bt174.1 == (decide ((wrap64 ((Int.tmod (Go.bits .and .i64 x171001 31) x158002) + 1)) ≤ x11))) = true then (if (wrap64 ((Int.tmod (Go.bits .and .i64 x171001 31) x158002) + 1)) ≤ x11 then ((cell_Cell_Room.f k bt174.2.1 bt174.2.2.1 bt174.2.2.2.1 bt174.2.2.2.2 x163000 x163001 x163002 x163003 x8).bind fun t179 => (if t179 > (wrap64 (x11 - (wrap64 ((Int.tmod (Go.bits .and .i64 x171001 31) x158002) + 1)))) then (some false) else (weighbridgelaw09_CellMore.l0 k x8 x23 x24 (wrap64 (x25 + 1)) x158000 x158001 x158002 x158003 x158004 x158005 x158006 x158007 x158008 x163000 x163001 x163002 x163003 bt174.2.1 bt174.2.2.1 bt174.2.2.2.1 bt174.2.2.2.2))) else (weighbridgelaw09_CellMore.l0 k x8 x23 x24 (wrap64 (x25 + 1)) x158000 x158001 x158002 x158003 x158004 x158005 x158006 x158007 x158008 x163000 x163001 x163002 x163003 bt174.2.1 bt174.2.2.1 bt174.2.2.2.1 bt174.2.2.2.2)) else (some false))))
end
def weighbridgelaw09_CellMore.f (k : Nat) (a0_0 : Int) (a0_1 : Int) (a0_2 : Int) (l1 : List (S40)) : Option (Bool) := (weighbridgelaw09_fit.f k).bind fun t147 => (if t147 = true then (if (l1.length : Int) > 100 then (some true) else ((weighbridgelaw09_Plan_Rule.f a0_0 a0_1 a0_2).bind fun bt148 => ((cell_Of.f k bt148.1 bt148.2.1 bt148.2.2.1 bt148.2.2.2.1 bt148.2.2.2.2.1 bt148.2.2.2.2.2.1 bt148.2.2.2.2.2.2.1 bt148.2.2.2.2.2.2.2.1 bt148.2.2.2.2.2.2.2.2).bind fun bt158 => ((cell_New.f 0 0).bind fun bt163 => (weighbridgelaw09_CellMore.l0 k 0 l1 (l1.length : Int) 0 bt148.1 bt148.2.1 bt148.2.2.1 bt148.2.2.2.1 bt148.2.2.2.2.1 bt148.2.2.2.2.2.1 bt148.2.2.2.2.2.2.1 bt148.2.2.2.2.2.2.2.1 bt148.2.2.2.2.2.2.2.2 bt158.1 bt158.2.1 bt158.2.2.1 bt158.2.2.2 bt163.1 bt163.2.1 bt163.2.2.1 bt163.2.2.2))))) else (some false))
theorem weighbridgelaw09_CellMore.mono_l : ∀ k, (∀ y0 y1 y2 y3 y4 y5 y6 y7 y8 y9 y10 y11 y12 y13 y14 y15 y16 y17 y18 y19 y20, LeO (weighbridgelaw09_CellMore.l0 k y0 y1 y2 y3 y4 y5 y6 y7 y8 y9 y10 y11 y12 y13 y14 y15 y16 y17 y18 y19 y20) (weighbridgelaw09_CellMore.l0 (k + 1) y0 y1 y2 y3 y4 y5 y6 y7 y8 y9 y10 y11 y12 y13 y14 y15 y16 y17 y18 y19 y20)) ∧ (∀ y0 y1 y2 y3 y4 y5 y6 y7 y8 y9 y10 y11 y12 y13 y14 y15 y16 y17 y18 y19 y20 y21 y22 y23 y24, LeO (weighbridgelaw09_CellMore.j1 k y0 y1 y2 y3 y4 y5 y6 y7 y8 y9 y10 y11 y12 y13 y14 y15 y16 y17 y18 y19 y20 y21 y22 y23 y24) (weighbridgelaw09_CellMore.j1 (k + 1) y0 y1 y2 y3 y4 y5 y6 y7 y8 y9 y10 y11 y12 y13 y14 y15 y16 y17 y18 y19 y20 y21 y22 y23 y24))
  | 0 => ⟨fun _ _ _ _ _ _ _ _ _ _ _ _ _ _ _ _ _ _ _ _ _ r h => by simp [weighbridgelaw09_CellMore.l0] at h, fun _ _ _ _ _ _ _ _ _ _ _ _ _ _ _ _ _ _ _ _ _ _ _ _ _ r h => by simp [weighbridgelaw09_CellMore.j1] at h⟩
  | k + 1 => by
    obtain ⟨ih0, ih1⟩ := weighbridgelaw09_CellMore.mono_l k
    refine ⟨?_, ?_⟩
    · intro y0 y1 y2 y3 y4 y5 y6 y7 y8 y9 y10 y11 y12 y13 y14 y15 y16 y17 y18 y19 y20
      unfold weighbridgelaw09_CellMore.l0
      repeat' first
      | (with_reducible exact ih0 _ _ _ _ _ _ _ _ _ _ _ _ _ _ _ _ _ _ _ _ _)
      | (with_reducible exact ih1 _ _ _ _ _ _ _ _ _ _ _ _ _ _ _ _ _ _ _ _ _ _ _ _ _)
      | (with_reducible exact cell_Cell_Room.mono _ _ _ _ _ _ _ _ _ _)
      | (with_reducible exact cell_Cell_Take.mono _ _ _ _ _ _ _ _ _ _ _)
      | (with_reducible exact cell_Of.mono _ _ _ _ _ _ _ _ _ _)
      | (with_reducible exact weighbridgelaw09_fit.mono _)
      | (with_reducible exact LeO.refl _)
      | (with_reducible exact LeO.none _)
      | (with_reducible refine LeO.ite ?_ ?_)
      | (with_reducible refine LeO.bind ?_ (fun _ => ?_))
      | exact ih0 _ _ _ _ _ _ _ _ _ _ _ _ _ _ _ _ _ _ _ _ _
      | exact ih1 _ _ _ _ _ _ _ _ _ _ _ _ _ _ _ _ _ _ _ _ _ _ _ _ _
      | exact cell_Cell_Room.mono _ _ _ _ _ _ _ _ _ _
      | exact cell_Cell_Take.mono _ _ _ _ _ _ _ _ _ _ _
      | exact cell_Of.mono _ _ _ _ _ _ _ _ _ _
      | exact weighbridgelaw09_fit.mono _
      | exact LeO.none _
      | refine LeO.ite ?_ ?_
      | refine LeO.bind ?_ (fun _ => ?_)
    · intro y0 y1 y2 y3 y4 y5 y6 y7 y8 y9 y10 y11 y12 y13 y14 y15 y16 y17 y18 y19 y20 y21 y22 y23 y24
      unfold weighbridgelaw09_CellMore.j1
      repeat' first
      | (with_reducible exact ih0 _ _ _ _ _ _ _ _ _ _ _ _ _ _ _ _ _ _ _ _ _)
      | (with_reducible exact ih1 _ _ _ _ _ _ _ _ _ _ _ _ _ _ _ _ _ _ _ _ _ _ _ _ _)
      | (with_reducible exact cell_Cell_Room.mono _ _ _ _ _ _ _ _ _ _)
      | (with_reducible exact cell_Cell_Take.mono _ _ _ _ _ _ _ _ _ _ _)
      | (with_reducible exact cell_Of.mono _ _ _ _ _ _ _ _ _ _)
      | (with_reducible exact weighbridgelaw09_fit.mono _)
      | (with_reducible exact LeO.refl _)
      | (with_reducible exact LeO.none _)
      | (with_reducible refine LeO.ite ?_ ?_)
      | (with_reducible refine LeO.bind ?_ (fun _ => ?_))
      | exact ih0 _ _ _ _ _ _ _ _ _ _ _ _ _ _ _ _ _ _ _ _ _
      | exact ih1 _ _ _ _ _ _ _ _ _ _ _ _ _ _ _ _ _ _ _ _ _ _ _ _ _
      | exact cell_Cell_Room.mono _ _ _ _ _ _ _ _ _ _
      | exact cell_Cell_Take.mono _ _ _ _ _ _ _ _ _ _ _
      | exact cell_Of.mono _ _ _ _ _ _ _ _ _ _
      | exact weighbridgelaw09_fit.mono _
      | exact LeO.none _
      | refine LeO.ite ?_ ?_
      | refine LeO.bind ?_ (fun _ => ?_)
theorem weighbridgelaw09_CellMore.mono : ∀ a0 a1 a2 a3 k, LeO (weighbridgelaw09_CellMore.f k a0 a1 a2 a3) (weighbridgelaw09_CellMore.f (k + 1) a0 a1 a2 a3) := by
  intro a0 a1 a2 a3 k
  obtain ⟨ih0, ih1⟩ := weighbridgelaw09_CellMore.mono_l k
  unfold weighbridgelaw09_CellMore.f
  repeat' first
      | (with_reducible exact ih0 _ _ _ _ _ _ _ _ _ _ _ _ _ _ _ _ _ _ _ _ _)
      | (with_reducible exact ih1 _ _ _ _ _ _ _ _ _ _ _ _ _ _ _ _ _ _ _ _ _ _ _ _ _)
      | (with_reducible exact cell_Cell_Room.mono _ _ _ _ _ _ _ _ _ _)
      | (with_reducible exact cell_Cell_Take.mono _ _ _ _ _ _ _ _ _ _ _)
      | (with_reducible exact cell_Of.mono _ _ _ _ _ _ _ _ _ _)
      | (with_reducible exact weighbridgelaw09_fit.mono _)
      | (with_reducible exact LeO.refl _)
      | (with_reducible exact LeO.none _)
      | (with_reducible refine LeO.ite ?_ ?_)
      | (with_reducible refine LeO.bind ?_ (fun _ => ?_))
      | exact ih0 _ _ _ _ _ _ _ _ _ _ _ _ _ _ _ _ _ _ _ _ _
      | exact ih1 _ _ _ _ _ _ _ _ _ _ _ _ _ _ _ _ _ _ _ _ _ _ _ _ _
      | exact cell_Cell_Room.mono _ _ _ _ _ _ _ _ _ _
      | exact cell_Cell_Take.mono _ _ _ _ _ _ _ _ _ _ _
      | exact cell_Of.mono _ _ _ _ _ _ _ _ _ _
      | exact weighbridgelaw09_fit.mono _
      | exact LeO.none _
      | refine LeO.ite ?_ ?_
      | refine LeO.bind ?_ (fun _ => ?_)
def weighbridgelaw09_CellMore.T20 : Bool × List (List Nat × List Nat) := (true, [([], []), ([], []), ([], []), ([], []), ([3], [3]), ([4], [4]), ([2, 5], [2, 5]), ([], []), ([7], [7]), ([], []), ([9], [9]), ([8, 10], [8, 10]), ([6, 11], [6, 11]), ([0, 1, 12], [0, 1, 12]), ([], []), ([14], [14]), ([13, 15], [13, 15]), ([16, 13, 0, 1, 2, 3, 4, 5, 6, 7, 8, 9, 10, 11, 12, 13, 14, 15, 16], [16])])
def weighbridgelaw09_CellMore.B20 : List Nat := [0, 0, 0, 0, 8, 24, 60, 0, 128, 0, 512, 1920, 4092, 8191, 0, 16384, 65535, 131071]
theorem weighbridgelaw09_CellMore.tab20 : rtab .any (opsOf Try.f6 20) = weighbridgelaw09_CellMore.T20 := by kernel_rfl
theorem weighbridgelaw09_CellMore.bits20 : waitsOk weighbridgelaw09_CellMore.T20.2 weighbridgelaw09_CellMore.B20 = true := by kernel_rfl
set_option maxHeartbeats 8000000 in
set_option maxRecDepth 100000 in
theorem weighbridgelaw09_CellMore.calls (k : Nat) (a0_0 : Int) (a0_1 : Int) (a0_2 : Int) (A1 : Option Addr) (c1 : Nat) (l1 : List (S40)) (r : Bool) (w : World) (hr1 : Kd.C k40 w A1 l1.length l1) (hc1 : l1.length ≤ c1) (hr_ : Aside0 (r = true)) (h : weighbridgelaw09_CellMore.f k a0_0 a0_1 a0_2 l1 = some r) :
    Calls Try.prog 6 #[.agg #[.int .i64 a0_0, .int .i64 a0_1, .int .i64 a0_2], .slice A1 l1.length c1] w fun e w' => e = .returned (.bool r) ∧ Below w.heap.size w w' := by
  have hu23 := Try.underlying23
  have hu28 := Try.underlying28
  have hu31 := Try.underlying31
  have hu36 := Try.underlying36
  have hu40 := Try.underlying40
  have HR1 := Aside0.mk hr1
  have HC1 := Aside0.mk hc1
  clear hr1 hc1
  have HB := Aside0.mk (Below.refl w.heap.size w)
  have H : ((weighbridgelaw09_fit.f k).bind fun t147 => (if t147 = true then (if (l1.length : Int) > 100 then (some true) else ((weighbridgelaw09_Plan_Rule.f a0_0 a0_1 a0_2).bind fun bt148 => ((cell_Of.f k bt148.1 bt148.2.1 bt148.2.2.1 bt148.2.2.2.1 bt148.2.2.2.2.1 bt148.2.2.2.2.2.1 bt148.2.2.2.2.2.2.1 bt148.2.2.2.2.2.2.2.1 bt148.2.2.2.2.2.2.2.2).bind fun bt158 => ((cell_New.f 0 0).bind fun bt163 => (weighbridgelaw09_CellMore.l0 k 0 l1 (l1.length : Int) 0 bt148.1 bt148.2.1 bt148.2.2.1 bt148.2.2.2.1 bt148.2.2.2.2.1 bt148.2.2.2.2.2.1 bt148.2.2.2.2.2.2.1 bt148.2.2.2.2.2.2.2.1 bt148.2.2.2.2.2.2.2.2 bt158.1 bt158.2.1 bt158.2.2.1 bt158.2.2.2 bt163.1 bt163.2.1 bt163.2.2.1 bt163.2.2.2))))) else (some false))) = some r := h
  clear h
  replace H := Option.bind_eq_some_iff.mp H
  obtain ⟨t147, A30, H⟩ := H
  replace H : (if t147 = true then (if (l1.length : Int) > 100 then (some true) else ((weighbridgelaw09_Plan_Rule.f a0_0 a0_1 a0_2).bind fun bt148 => ((cell_Of.f k bt148.1 bt148.2.1 bt148.2.2.1 bt148.2.2.2.1 bt148.2.2.2.2.1 bt148.2.2.2.2.2.1 bt148.2.2.2.2.2.2.1 bt148.2.2.2.2.2.2.2.1 bt148.2.2.2.2.2.2.2.2).bind fun bt158 => ((cell_New.f 0 0).bind fun bt163 => (weighbridgelaw09_CellMore.l0 k 0 l1 (l1.length : Int) 0 bt148.1 bt148.2.1 bt148.2.2.1 bt148.2.2.2.1 bt148.2.2.2.2.1 bt148.2.2.2.2.2.1 bt148.2.2.2.2.2.2.1 bt148.2.2.2.2.2.2.2.1 bt148.2.2.2.2.2.2.2.2 bt158.1 bt158.2.1 bt158.2.2.1 bt158.2.2.2 bt163.1 bt163.2.1 bt163.2.2.1 bt163.2.2.2))))) else (some false)) = some r := H
  have A3 := Aside0.mk A30
  clear A30
  by_cases c4 : t147 = true
  · subst c4
    have H1 : (if (l1.length : Int) > 100 then (some true) else ((weighbridgelaw09_Plan_Rule.f a0_0 a0_1 a0_2).bind fun bt148 => ((cell_Of.f k bt148.1 bt148.2.1 bt148.2.2.1 bt148.2.2.2.1 bt148.2.2.2.2.1 bt148.2.2.2.2.2.1 bt148.2.2.2.2.2.2.1 bt148.2.2.2.2.2.2.2.1 bt148.2.2.2.2.2.2.2.2).bind fun bt158 => ((cell_New.f 0 0).bind fun bt163 => (weighbridgelaw09_CellMore.l0 k 0 l1 (l1.length : Int) 0 bt148.1 bt148.2.1 bt148.2.2.1 bt148.2.2.2.1 bt148.2.2.2.2.1 bt148.2.2.2.2.2.1 bt148.2.2.2.2.2.2.1 bt148.2.2.2.2.2.2.2.1 bt148.2.2.2.2.2.2.2.2 bt158.1 bt158.2.1 bt158.2.2.1 bt158.2.2.2 bt163.1 bt163.2.1 bt163.2.2.1 bt163.2.2.2))))) = some r := by rw [if_pos rfl] at H; exact H
    clear H
    have H := H1
    clear H1
    by_cases c5 : (l1.length : Int) > 100
    · rw [if_pos c5] at H
      have c5b0 : decide (100 < (l1.length : Int)) = true := decide_eq_true c5
      have c5b1 : decide (100 < l1.length) = true := decide_eq_true (by omega)
      clear c5
      obtain rfl := Option.some.inj H
      go_enter Try.func6, Try.ntmps6
      go_wp2_with (first | ((with_reducible refine gate_dst (N := 2) rfl ?_); refine box_event ?hg (N := 2) ?hd (cs := #[.int .i64 a0_0, .int .i64 a0_1, .int .i64 a0_2]) (t := 23) ?hr ?_; (case hd => rfl); (case hg => rfl); (case hr => first | (go_simp; done) | (go_simp; rfl)); intro gb146 hg w6 hbox hb; have n0_ := Aside0.mk (below_step (by repeat (first | (with_reducible first | exact HB.out | apply below_alloc | apply pw_below_drewN | apply below_drew1) | exact HB.out)) hb); have n1_ := Aside0.mk (hbox); have n2_ := Aside0.mk ((by rw [hg]; exact (below_size (by repeat (first | (with_reducible first | exact HB.out | apply below_alloc | apply pw_below_drewN | apply below_drew1) | exact HB.out))) : w.heap.size ≤ gb146)); have n3_ := Aside0.mk ((by rw [hg]; exact (below_size (by repeat (first | (with_reducible first | exact HB.out | apply below_alloc | apply pw_below_drewN | apply below_drew1) | exact HB.out))) : w.heap.size ≤ gb146)); clear HB; have HB := n0_; have BK146 := n1_; have GW146 := n2_; have GE146 := n3_; clear n0_ n1_ n2_ n3_; clear hb hbox hg) | ((with_reducible refine gate_callee (f := 11) rfl ?_); refine goesL_ (some 13) rfl rfl Try.func11 (by kernel_rfl) rfl #[] rfl (by (try simp only [List.map_toArray, List.map_cons, List.map_nil]); first | done | rfl | (simp only [List.length_drop, List.length_take]; rfl)) ?_; (with_reducible refine (weighbridgelaw09_fit.calls k  true _ A3.out).mono ?_); rintro e w7 ⟨rfl, hb⟩; refine ⟨_, rfl, ?_⟩; have n0_ := Aside0.mk (blk_below (g := gb146) (o := .cells #[.int .i64 a0_0, .int .i64 a0_1, .int .i64 a0_2] 23 (0, 0)) (by (with_reducible repeat (first | refine blk_drewN ?_ _ | refine blk_drew ?_ | refine blk_alloc ?_ _)); exact BK146.out) hb); have n1_ := Aside0.mk (below_step (by repeat (first | (with_reducible first | exact HB.out | apply below_alloc | apply pw_below_drewN | apply below_drew1 | refine below_set ?_ GE146.out) | exact HB.out)) hb); clear BK146; clear HB; have BK146 := n0_; have HB := n1_; clear n0_ n1_; (try clear hb); (try clear hb2); (try clear hk); (try clear hi)))
      go_ret
      exact ⟨by first | rfl | (simp [errW_none, errW_some] <;> rfl) | (simp [*, errW_none, errW_some] <;> rfl), by repeat (first | (with_reducible first | exact HB.out | apply below_alloc | apply pw_below_drewN | apply below_drew1 | refine below_set ?_ GE146.out) | exact HB.out)⟩
    · rw [if_neg c5] at H
      have c5b0 : decide (100 < (l1.length : Int)) = false := decide_eq_false c5
      have c5b1 : decide (100 < l1.length) = false := decide_eq_false (by omega)
      clear c5
      replace H := Option.bind_eq_some_iff.mp H
      obtain ⟨⟨t148, t149, t150, t151, t152, t153, t154, t155, t156⟩, A80, H⟩ := H
      replace H : ((cell_Of.f k t148 t149 t150 t151 t152 t153 t154 t155 t156).bind fun bt158 => ((cell_New.f 0 0).bind fun bt163 => (weighbridgelaw09_CellMore.l0 k 0 l1 (l1.length : Int) 0 t148 t149 t150 t151 t152 t153 t154 t155 t156 bt158.1 bt158.2.1 bt158.2.2.1 bt158.2.2.2 bt163.1 bt163.2.1 bt163.2.2.1 bt163.2.2.2))) = some r := H
      have A8 := Aside0.mk A80
      clear A80
      replace H := Option.bind_eq_some_iff.mp H
      obtain ⟨⟨t158, t159, t160, t161⟩, A90, H⟩ := H
      replace H : ((cell_New.f 0 0).bind fun bt163 => (weighbridgelaw09_CellMore.l0 k 0 l1 (l1.length : Int) 0 t148 t149 t150 t151 t152 t153 t154 t155 t156 t158 t159 t160 t161 bt163.1 bt163.2.1 bt163.2.2.1 bt163.2.2.2)) = some r := H
      have A9 := Aside0.mk A90
      clear A90
      replace H := Option.bind_eq_some_iff.mp H
      obtain ⟨⟨t163, t164, t165, t166⟩, A100, H⟩ := H
      replace H : (weighbridgelaw09_CellMore.l0 k 0 l1 (l1.length : Int) 0 t148 t149 t150 t151 t152 t153 t154 t155 t156 t158 t159 t160 t161 t163 t164 t165 t166) = some r := H
      have A10 := Aside0.mk A100
      clear A100
      have H' := Aside0.mk H
      clear H
      go_enter Try.func6, Try.ntmps6
      go_wp2_with (first | ((with_reducible refine gate_dst (N := 2) rfl ?_); refine box_event ?hg (N := 2) ?hd (cs := #[.int .i64 a0_0, .int .i64 a0_1, .int .i64 a0_2]) (t := 23) ?hr ?_; (case hd => rfl); (case hg => rfl); (case hr => first | (go_simp; done) | (go_simp; rfl)); intro gb146 hg w11 hbox hb; have n0_ := Aside0.mk (below_step (by repeat (first | (with_reducible first | exact HB.out | apply below_alloc | apply pw_below_drewN | apply below_drew1) | exact HB.out)) hb); have n1_ := Aside0.mk (hbox); have n2_ := Aside0.mk ((by rw [hg]; exact (below_size (by repeat (first | (with_reducible first | exact HB.out | apply below_alloc | apply pw_below_drewN | apply below_drew1) | exact HB.out))) : w.heap.size ≤ gb146)); have n3_ := Aside0.mk ((by rw [hg]; exact (below_size (by repeat (first | (with_reducible first | exact HB.out | apply below_alloc | apply pw_below_drewN | apply below_drew1) | exact HB.out))) : w.heap.size ≤ gb146)); clear HB; have HB := n0_; have BK146 := n1_; have GW146 := n2_; have GE146 := n3_; clear n0_ n1_ n2_ n3_; clear hb hbox hg) | ((with_reducible refine gate_callee (f := 11) rfl ?_); refine goesL_ (some 13) rfl rfl Try.func11 (by kernel_rfl) rfl #[] rfl (by (try simp only [List.map_toArray, List.map_cons, List.map_nil]); first | done | rfl | (simp only [List.length_drop, List.length_take]; rfl)) ?_; (with_reducible refine (weighbridgelaw09_fit.calls k  true _ A3.out).mono ?_); rintro e w12 ⟨rfl, hb⟩; refine ⟨_, rfl, ?_⟩; have n0_ := Aside0.mk (blk_below (g := gb146) (o := .cells #[.int .i64 a0_0, .int .i64 a0_1, .int .i64 a0_2] 23 (0, 0)) (by (with_reducible repeat (first | refine blk_drewN ?_ _ | refine blk_drew ?_ | refine blk_alloc ?_ _)); exact BK146.out) hb); have n1_ := Aside0.mk (below_step (by repeat (first | (with_reducible first | exact HB.out | apply below_alloc | apply pw_below_drewN | apply below_drew1 | refine below_set ?_ GE146.out) | exact HB.out)) hb); clear BK146; clear HB; have BK146 := n0_; have HB := n1_; clear n0_ n1_; (try clear hb); (try clear hb2); (try clear hk); (try clear hi); have hcz13_0 : w12.cell? ⟨gb146, 0, none⟩ = some (.int .i64 a0_0) := (blk_cell BK146.out 0).trans rfl; have hcz13_1 : w12.cell? ⟨gb146, 1, none⟩ = some (.int .i64 a0_1) := (blk_cell BK146.out 1).trans rfl; have hcz13_2 : w12.cell? ⟨gb146, 2, none⟩ = some (.int .i64 a0_2) := (blk_cell BK146.out 2).trans rfl; have hfz13_0 := blk_frozen BK146.out 0; have hfz13_1 := blk_frozen BK146.out 1; have hfz13_2 := blk_frozen BK146.out 2) | ((with_reducible refine gate_callee (f := 12) rfl ?_); refine goesL_ (some 19) rfl rfl Try.func12 (by kernel_rfl) rfl #[.agg #[.int .i64 a0_0, .int .i64 a0_1, .int .i64 a0_2]] rfl (by (try simp only [List.map_toArray, List.map_cons, List.map_nil]); first | done | rfl | (simp only [List.length_drop, List.length_take]; rfl)) ?_; (with_reducible refine (weighbridgelaw09_Plan_Rule.calls a0_0 a0_1 a0_2 t148 t149 t150 t151 t152 t153 t154 t155 t156 _ A8.out).mono ?_); rintro e w14 ⟨rfl, hb⟩; refine ⟨_, rfl, ?_⟩; have n0_ := Aside0.mk (blk_below (g := gb146) (o := .cells #[.int .i64 a0_0, .int .i64 a0_1, .int .i64 a0_2] 23 (0, 0)) (by (with_reducible repeat (first | refine blk_drewN ?_ _ | refine blk_drew ?_ | refine blk_alloc ?_ _)); exact BK146.out) hb); have n1_ := Aside0.mk (below_step (by repeat (first | (with_reducible first | exact HB.out | apply below_alloc | apply pw_below_drewN | apply below_drew1 | refine below_set ?_ GE146.out) | exact HB.out)) hb); clear BK146; clear HB; have BK146 := n0_; have HB := n1_; clear n0_ n1_; (try clear hb); (try clear hb2); (try clear hk); (try clear hi)) | ((with_reducible refine gate_dst (N := 5) rfl ?_); refine box_event ?hg (N := 5) ?hd (cs := #[.int .i64 0, .int .i64 0, .int .i64 0, .int .i64 0, .int .i64 0, .int .i64 0, .int .i64 0, .int .i64 0, .bool false]) (t := 28) ?hr ?_; (case hd => rfl); (case hg => rfl); (case hr => first | (go_simp; done) | (go_simp; rfl)); intro gb157 hg w15 hbox hb; have n0_ := Aside0.mk (blk_below (g := gb146) (o := .cells #[.int .i64 a0_0, .int .i64 a0_1, .int .i64 a0_2] 23 (0, 0)) (by (with_reducible repeat (first | refine blk_drewN ?_ _ | refine blk_drew ?_ | refine blk_alloc ?_ _)); exact BK146.out) hb); have n1_ := Aside0.mk (below_step (by repeat (first | (with_reducible first | exact HB.out | apply below_alloc | apply pw_below_drewN | apply below_drew1 | refine below_set ?_ GE146.out) | exact HB.out)) hb); have n2_ := Aside0.mk (hbox); have n3_ := Aside0.mk ((by rw [hg]; exact (below_size (by repeat (first | (with_reducible first | exact HB.out | apply below_alloc | apply pw_below_drewN | apply below_drew1 | refine below_set ?_ GE146.out) | exact HB.out))) : w.heap.size ≤ gb157)); have n4_ := Aside0.mk ((by rw [hg]; exact (below_size (by repeat (first | (with_reducible first | exact HB.out | apply below_alloc | apply pw_below_drewN | apply below_drew1 | refine below_set ?_ GE146.out) | exact HB.out))) : w.heap.size ≤ gb157)); have n5_ := Aside0.mk ((by rw [hg]; exact Nat.ne_of_lt (blk_lt (g := gb146) (o := .cells #[.int .i64 a0_0, .int .i64 a0_1, .int .i64 a0_2] 23 (0, 0)) (by (with_reducible repeat (first | refine blk_drewN ?_ _ | refine blk_drew ?_ | refine blk_alloc ?_ _)); exact BK146.out)) : gb146 ≠ gb157)); have n6_ := Aside0.mk ((by rw [hg]; exact Nat.ne_of_gt (blk_lt (g := gb146) (o := .cells #[.int .i64 a0_0, .int .i64 a0_1, .int .i64 a0_2] 23 (0, 0)) (by (with_reducible repeat (first | refine blk_drewN ?_ _ | refine blk_drew ?_ | refine blk_alloc ?_ _)); exact BK146.out)) : gb157 ≠ gb146)); clear BK146; clear HB; have BK146 := n0_; have HB := n1_; have BK157 := n2_; have GW157 := n3_; have GE157 := n4_; have NB146_157 := n5_; have NB157_146 := n6_; clear n0_ n1_ n2_ n3_ n4_ n5_ n6_; clear hb hbox hg; have hnb16 := NB157_146.out; have hnc16 := NB146_157.out; have hcz17_0 : w15.cell? ⟨gb157, 0, none⟩ = some (.int .i64 0) := (blk_cell BK157.out 0).trans rfl; have hcz17_1 : w15.cell? ⟨gb157, 1, none⟩ = some (.int .i64 0) := (blk_cell BK157.out 1).trans rfl; have hcz17_2 : w15.cell? ⟨gb157, 2, none⟩ = some (.int .i64 0) := (blk_cell BK157.out 2).trans rfl; have hcz17_3 : w15.cell? ⟨gb157, 3, none⟩ = some (.int .i64 0) := (blk_cell BK157.out 3).trans rfl; have hcz17_4 : w15.cell? ⟨gb157, 4, none⟩ = some (.int .i64 0) := (blk_cell BK157.out 4).trans rfl; have hcz17_5 : w15.cell? ⟨gb157, 5, none⟩ = some (.int .i64 0) := (blk_cell BK157.out 5).trans rfl; have hcz17_6 : w15.cell? ⟨gb157, 6, none⟩ = some (.int .i64 0) := (blk_cell BK157.out 6).trans rfl; have hcz17_7 : w15.cell? ⟨gb157, 7, none⟩ = some (.int .i64 0) := (blk_cell BK157.out 7).trans rfl; have hcz17_8 : w15.cell? ⟨gb157, 8, none⟩ = some (.bool false) := (blk_cell BK157.out 8).trans rfl; have hfz17_0 := blk_frozen BK157.out 0; have hfz17_1 := blk_frozen BK157.out 1; have hfz17_2 := blk_frozen BK157.out 2; have hfz17_3 := blk_frozen BK157.out 3; have hfz17_4 := blk_frozen BK157.out 4; have hfz17_5 := blk_frozen BK157.out 5; have hfz17_6 := blk_frozen BK157.out 6; have hfz17_7 := blk_frozen BK157.out 7; have hfz17_8 := blk_frozen BK157.out 8) | ((with_reducible refine gate_callee (f := 13) rfl ?_); refine goesL_ (some 21) rfl rfl Try.func13 (by kernel_rfl) rfl #[.agg #[.int .i64 t148, .int .i64 t149, .int .i64 t150, .int .i64 t151, .int .i64 t152, .int .i64 t153, .int .i64 t154, .int .i64 t155, .bool t156]] rfl (by (try simp only [List.map_toArray, List.map_cons, List.map_nil]); first | done | rfl | (simp only [List.length_drop, List.length_take]; rfl)) ?_; (with_reducible refine (cell_Of.calls k t148 t149 t150 t151 t152 t153 t154 t155 t156 t158 t159 t160 t161 _ A9.out).mono ?_); rintro e w18 ⟨rfl, hb⟩; refine ⟨_, rfl, ?_⟩; have n0_ := Aside0.mk (blk_below (g := gb146) (o := .cells #[.int .i64 a0_0, .int .i64 a0_1, .int .i64 a0_2] 23 (0, 0)) (by (with_reducible repeat (first | refine blk_drewN ?_ _ | refine blk_drew ?_ | refine blk_alloc ?_ _)); refine blk_far ?_ NB146_157.out _; (with_reducible repeat (first | refine blk_drewN ?_ _ | refine blk_drew ?_ | refine blk_alloc ?_ _)); refine blk_far ?_ NB146_157.out _; (with_reducible repeat (first | refine blk_drewN ?_ _ | refine blk_drew ?_ | refine blk_alloc ?_ _)); refine blk_far ?_ NB146_157.out _; (with_reducible repeat (first | refine blk_drewN ?_ _ | refine blk_drew ?_ | refine blk_alloc ?_ _)); refine blk_far ?_ NB146_157.out _; (with_reducible repeat (first | refine blk_drewN ?_ _ | refine blk_drew ?_ | refine blk_alloc ?_ _)); refine blk_far ?_ NB146_157.out _; (with_reducible repeat (first | refine blk_drewN ?_ _ | refine blk_drew ?_ | refine blk_alloc ?_ _)); refine blk_far ?_ NB146_157.out _; (with_reducible repeat (first | refine blk_drewN ?_ _ | refine blk_drew ?_ | refine blk_alloc ?_ _)); refine blk_far ?_ NB146_157.out _; (with_reducible repeat (first | refine blk_drewN ?_ _ | refine blk_drew ?_ | refine blk_alloc ?_ _)); refine blk_far ?_ NB146_157.out _; (with_reducible repeat (first | refine blk_drewN ?_ _ | refine blk_drew ?_ | refine blk_alloc ?_ _)); refine blk_far ?_ NB146_157.out _; (with_reducible repeat (first | refine blk_drewN ?_ _ | refine blk_drew ?_ | refine blk_alloc ?_ _)); exact BK146.out) hb); have n1_ := Aside0.mk (blk_below (g := gb157) (o := .cells #[.int .i64 t148, .int .i64 t149, .int .i64 t150, .int .i64 t151, .int .i64 t152, .int .i64 t153, .int .i64 t154, .int .i64 t155, .bool t156] 28 (0, 0)) (by (with_reducible repeat (first | refine blk_drewN ?_ _ | refine blk_drew ?_ | refine blk_alloc ?_ _)); refine blk_put (cs := #[.int .i64 t148, .int .i64 t149, .int .i64 t150, .int .i64 t151, .int .i64 t152, .int .i64 t153, .int .i64 t154, .int .i64 t155, .bool false]) ?_ 8 _ rfl; (with_reducible repeat (first | refine blk_drewN ?_ _ | refine blk_drew ?_ | refine blk_alloc ?_ _)); refine blk_put (cs := #[.int .i64 t148, .int .i64 t149, .int .i64 t150, .int .i64 t151, .int .i64 t152, .int .i64 t153, .int .i64 t154, .int .i64 0, .bool false]) ?_ 7 _ rfl; (with_reducible repeat (first | refine blk_drewN ?_ _ | refine blk_drew ?_ | refine blk_alloc ?_ _)); refine blk_put (cs := #[.int .i64 t148, .int .i64 t149, .int .i64 t150, .int .i64 t151, .int .i64 t152, .int .i64 t153, .int .i64 0, .int .i64 0, .bool false]) ?_ 6 _ rfl; (with_reducible repeat (first | refine blk_drewN ?_ _ | refine blk_drew ?_ | refine blk_alloc ?_ _)); refine blk_put (cs := #[.int .i64 t148, .int .i64 t149, .int .i64 t150, .int .i64 t151, .int .i64 t152, .int .i64 0, .int .i64 0, .int .i64 0, .bool false]) ?_ 5 _ rfl; (with_reducible repeat (first | refine blk_drewN ?_ _ | refine blk_drew ?_ | refine blk_alloc ?_ _)); refine blk_put (cs := #[.int .i64 t148, .int .i64 t149, .int .i64 t150, .int .i64 t151, .int .i64 0, .int .i64 0, .int .i64 0, .int .i64 0, .bool false]) ?_ 4 _ rfl; (with_reducible repeat (first | refine blk_drewN ?_ _ | refine blk_drew ?_ | refine blk_alloc ?_ _)); refine blk_put (cs := #[.int .i64 t148, .int .i64 t149, .int .i64 t150, .int .i64 0, .int .i64 0, .int .i64 0, .int .i64 0, .int .i64 0, .bool false]) ?_ 3 _ rfl; (with_reducible repeat (first | refine blk_drewN ?_ _ | refine blk_drew ?_ | refine blk_alloc ?_ _)); refine blk_put (cs := #[.int .i64 t148, .int .i64 t149, .int .i64 0, .int .i64 0, .int .i64 0, .int .i64 0, .int .i64 0, .int .i64 0, .bool false]) ?_ 2 _ rfl; (with_reducible repeat (first | refine blk_drewN ?_ _ | refine blk_drew ?_ | refine blk_alloc ?_ _)); refine blk_put (cs := #[.int .i64 t148, .int .i64 0, .int .i64 0, .int .i64 0, .int .i64 0, .int .i64 0, .int .i64 0, .int .i64 0, .bool false]) ?_ 1 _ rfl; (with_reducible repeat (first | refine blk_drewN ?_ _ | refine blk_drew ?_ | refine blk_alloc ?_ _)); refine blk_put (cs := #[.int .i64 0, .int .i64 0, .int .i64 0, .int .i64 0, .int .i64 0, .int .i64 0, .int .i64 0, .int .i64 0, .bool false]) ?_ 0 _ rfl; (with_reducible repeat (first | refine blk_drewN ?_ _ | refine blk_drew ?_ | refine blk_alloc ?_ _)); exact BK157.out) hb); have n2_ := Aside0.mk (below_step (by repeat (first | (with_reducible first | exact HB.out | apply below_alloc | apply pw_below_drewN | apply below_drew1 | refine below_set ?_ GE146.out | refine below_set ?_ GE157.out) | exact HB.out)) hb); clear BK146; clear BK157; clear HB; have BK146 := n0_; have BK157 := n1_; have HB := n2_; clear n0_ n1_ n2_; (try clear hb); (try clear hb2); (try clear hk); (try clear hi)) | ((with_reducible refine gate_dst (N := 6) rfl ?_); refine box_event ?hg (N := 6) ?hd (cs := #[.int .i64 0, .int .i64 0, .int .i64 0, .int .i64 0]) (t := 31) ?hr ?_; (case hd => rfl); (case hg => rfl); (case hr => first | (go_simp; done) | (go_simp; rfl)); intro gb162 hg w19 hbox hb; have n0_ := Aside0.mk (blk_below (g := gb146) (o := .cells #[.int .i64 a0_0, .int .i64 a0_1, .int .i64 a0_2] 23 (0, 0)) (by (with_reducible repeat (first | refine blk_drewN ?_ _ | refine blk_drew ?_ | refine blk_alloc ?_ _)); exact BK146.out) hb); have n1_ := Aside0.mk (blk_below (g := gb157) (o := .cells #[.int .i64 t148, .int .i64 t149, .int .i64 t150, .int .i64 t151, .int .i64 t152, .int .i64 t153, .int .i64 t154, .int .i64 t155, .bool t156] 28 (0, 0)) (by (with_reducible repeat (first | refine blk_drewN ?_ _ | refine blk_drew ?_ | refine blk_alloc ?_ _)); exact BK157.out) hb); have n2_ := Aside0.mk (below_step (by repeat (first | (with_reducible first | exact HB.out | apply below_alloc | apply pw_below_drewN | apply below_drew1 | refine below_set ?_ GE146.out | refine below_set ?_ GE157.out) | exact HB.out)) hb); have n3_ := Aside0.mk (hbox); have n4_ := Aside0.mk ((by rw [hg]; exact (below_size (by repeat (first | (with_reducible first | exact HB.out | apply below_alloc | apply pw_below_drewN | apply below_drew1 | refine below_set ?_ GE146.out | refine below_set ?_ GE157.out) | exact HB.out))) : w.heap.size ≤ gb162)); have n5_ := Aside0.mk ((by rw [hg]; exact (below_size (by repeat (first | (with_reducible first | exact HB.out | apply below_alloc | apply pw_below_drewN | apply below_drew1 | refine below_set ?_ GE146.out | refine below_set ?_ GE157.out) | exact HB.out))) : w.heap.size ≤ gb162)); have n6_ := Aside0.mk ((by rw [hg]; exact Nat.ne_of_lt (blk_lt (g := gb146) (o := .cells #[.int .i64 a0_0, .int .i64 a0_1, .int .i64 a0_2] 23 (0, 0)) (by (with_reducible repeat (first | refine blk_drewN ?_ _ | refine blk_drew ?_ | refine blk_alloc ?_ _)); exact BK146.out)) : gb146 ≠ gb162)); have n7_ := Aside0.mk ((by rw [hg]; exact Nat.ne_of_gt (blk_lt (g := gb146) (o := .cells #[.int .i64 a0_0, .int .i64 a0_1, .int .i64 a0_2] 23 (0, 0)) (by (with_reducible repeat (first | refine blk_drewN ?_ _ | refine blk_drew ?_ | refine blk_alloc ?_ _)); exact BK146.out)) : gb162 ≠ gb146)); have n8_ := Aside0.mk ((by rw [hg]; exact Nat.ne_of_lt (blk_lt (g := gb157) (o := .cells #[.int .i64 t148, .int .i64 t149, .int .i64 t150, .int .i64 t151, .int .i64 t152, .int .i64 t153, .int .i64 t154, .int .i64 t155, .bool t156] 28 (0, 0)) (by (with_reducible repeat (first | refine blk_drewN ?_ _ | refine blk_drew ?_ | refine blk_alloc ?_ _)); exact BK157.out)) : gb157 ≠ gb162)); have n9_ := Aside0.mk ((by rw [hg]; exact Nat.ne_of_gt (blk_lt (g := gb157) (o := .cells #[.int .i64 t148, .int .i64 t149, .int .i64 t150, .int .i64 t151, .int .i64 t152, .int .i64 t153, .int .i64 t154, .int .i64 t155, .bool t156] 28 (0, 0)) (by (with_reducible repeat (first | refine blk_drewN ?_ _ | refine blk_drew ?_ | refine blk_alloc ?_ _)); exact BK157.out)) : gb162 ≠ gb157)); clear BK146; clear BK157; clear HB; have BK146 := n0_; have BK157 := n1_; have HB := n2_; have BK162 := n3_; have GW162 := n4_; have GE162 := n5_; have NB146_162 := n6_; have NB162_146 := n7_; have NB157_162 := n8_; have NB162_157 := n9_; clear n0_ n1_ n2_ n3_ n4_ n5_ n6_ n7_ n8_ n9_; clear hb hbox hg; have hnb20 := NB162_146.out; have hnc20 := NB146_162.out; have hnb21 := NB162_157.out; have hnc21 := NB157_162.out; have hcz22_0 : w19.cell? ⟨gb162, 0, none⟩ = some (.int .i64 0) := (blk_cell BK162.out 0).trans rfl; have hcz22_1 : w19.cell? ⟨gb162, 1, none⟩ = some (.int .i64 0) := (blk_cell BK162.out 1).trans rfl; have hcz22_2 : w19.cell? ⟨gb162, 2, none⟩ = some (.int .i64 0) := (blk_cell BK162.out 2).trans rfl; have hcz22_3 : w19.cell? ⟨gb162, 3, none⟩ = some (.int .i64 0) := (blk_cell BK162.out 3).trans rfl; have hfz22_0 := blk_frozen BK162.out 0; have hfz22_1 := blk_frozen BK162.out 1; have hfz22_2 := blk_frozen BK162.out 2; have hfz22_3 := blk_frozen BK162.out 3) | ((with_reducible refine gate_callee (f := 15) rfl ?_); refine goesL_ (some 22) rfl rfl Try.func15 (by kernel_rfl) rfl #[.int .i64 0, .int .i64 0] rfl (by (try simp only [List.map_toArray, List.map_cons, List.map_nil]); first | done | rfl | (simp only [List.length_drop, List.length_take]; rfl)) ?_; (with_reducible refine (cell_New.calls 0 0 t163 t164 t165 t166 _ A10.out).mono ?_); rintro e w23 ⟨rfl, hb⟩; refine ⟨_, rfl, ?_⟩; have n0_ := Aside0.mk (blk_below (g := gb146) (o := .cells #[.int .i64 a0_0, .int .i64 a0_1, .int .i64 a0_2] 23 (0, 0)) (by (with_reducible repeat (first | refine blk_drewN ?_ _ | refine blk_drew ?_ | refine blk_alloc ?_ _)); refine blk_far ?_ NB146_162.out _; (with_reducible repeat (first | refine blk_drewN ?_ _ | refine blk_drew ?_ | refine blk_alloc ?_ _)); refine blk_far ?_ NB146_162.out _; (with_reducible repeat (first | refine blk_drewN ?_ _ | refine blk_drew ?_ | refine blk_alloc ?_ _)); refine blk_far ?_ NB146_162.out _; (with_reducible repeat (first | refine blk_drewN ?_ _ | refine blk_drew ?_ | refine blk_alloc ?_ _)); refine blk_far ?_ NB146_162.out _; (with_reducible repeat (first | refine blk_drewN ?_ _ | refine blk_drew ?_ | refine blk_alloc ?_ _)); exact BK146.out) hb); have n1_ := Aside0.mk (blk_below (g := gb157) (o := .cells #[.int .i64 t148, .int .i64 t149, .int .i64 t150, .int .i64 t151, .int .i64 t152, .int .i64 t153, .int .i64 t154, .int .i64 t155, .bool t156] 28 (0, 0)) (by (with_reducible repeat (first | refine blk_drewN ?_ _ | refine blk_drew ?_ | refine blk_alloc ?_ _)); refine blk_far ?_ NB157_162.out _; (with_reducible repeat (first | refine blk_drewN ?_ _ | refine blk_drew ?_ | refine blk_alloc ?_ _)); refine blk_far ?_ NB157_162.out _; (with_reducible repeat (first | refine blk_drewN ?_ _ | refine blk_drew ?_ | refine blk_alloc ?_ _)); refine blk_far ?_ NB157_162.out _; (with_reducible repeat (first | refine blk_drewN ?_ _ | refine blk_drew ?_ | refine blk_alloc ?_ _)); refine blk_far ?_ NB157_162.out _; (with_reducible repeat (first | refine blk_drewN ?_ _ | refine blk_drew ?_ | refine blk_alloc ?_ _)); exact BK157.out) hb); have n2_ := Aside0.mk (blk_below (g := gb162) (o := .cells #[.int .i64 t158, .int .i64 t159, .int .i64 t160, .int .i64 t161] 31 (0, 0)) (by (with_reducible repeat (first | refine blk_drewN ?_ _ | refine blk_drew ?_ | refine blk_alloc ?_ _)); refine blk_put (cs := #[.int .i64 t158, .int .i64 t159, .int .i64 t160, .int .i64 0]) ?_ 3 _ rfl; (with_reducible repeat (first | refine blk_drewN ?_ _ | refine blk_drew ?_ | refine blk_alloc ?_ _)); refine blk_put (cs := #[.int .i64 t158, .int .i64 t159, .int .i64 0, .int .i64 0]) ?_ 2 _ rfl; (with_reducible repeat (first | refine blk_drewN ?_ _ | refine blk_drew ?_ | refine blk_alloc ?_ _)); refine blk_put (cs := #[.int .i64 t158, .int .i64 0, .int .i64 0, .int .i64 0]) ?_ 1 _ rfl; (with_reducible repeat (first | refine blk_drewN ?_ _ | refine blk_drew ?_ | refine blk_alloc ?_ _)); refine blk_put (cs := #[.int .i64 0, .int .i64 0, .int .i64 0, .int .i64 0]) ?_ 0 _ rfl; (with_reducible repeat (first | refine blk_drewN ?_ _ | refine blk_drew ?_ | refine blk_alloc ?_ _)); exact BK162.out) hb); have n3_ := Aside0.mk (below_step (by repeat (first | (with_reducible first | exact HB.out | apply below_alloc | apply pw_below_drewN | apply below_drew1 | refine below_set ?_ GE146.out | refine below_set ?_ GE157.out | refine below_set ?_ GE162.out) | exact HB.out)) hb); clear BK146; clear BK157; clear BK162; clear HB; have BK146 := n0_; have BK157 := n1_; have BK162 := n2_; have HB := n3_; clear n0_ n1_ n2_ n3_; (try clear hb); (try clear hb2); (try clear hk); (try clear hi)) | ((with_reducible refine gate_dst (N := 7) rfl ?_); refine box_event ?hg (N := 7) ?hd (cs := #[.int .i64 0, .int .i64 0, .int .i64 0, .int .i64 0]) (t := 36) ?hr ?_; (case hd => rfl); (case hg => rfl); (case hr => first | (go_simp; done) | (go_simp; rfl)); intro gb167 hg w24 hbox hb; have n0_ := Aside0.mk (blk_below (g := gb146) (o := .cells #[.int .i64 a0_0, .int .i64 a0_1, .int .i64 a0_2] 23 (0, 0)) (by (with_reducible repeat (first | refine blk_drewN ?_ _ | refine blk_drew ?_ | refine blk_alloc ?_ _)); exact BK146.out) hb); have n1_ := Aside0.mk (blk_below (g := gb157) (o := .cells #[.int .i64 t148, .int .i64 t149, .int .i64 t150, .int .i64 t151, .int .i64 t152, .int .i64 t153, .int .i64 t154, .int .i64 t155, .bool t156] 28 (0, 0)) (by (with_reducible repeat (first | refine blk_drewN ?_ _ | refine blk_drew ?_ | refine blk_alloc ?_ _)); exact BK157.out) hb); have n2_ := Aside0.mk (blk_below (g := gb162) (o := .cells #[.int .i64 t158, .int .i64 t159, .int .i64 t160, .int .i64 t161] 31 (0, 0)) (by (with_reducible repeat (first | refine blk_drewN ?_ _ | refine blk_drew ?_ | refine blk_alloc ?_ _)); exact BK162.out) hb); have n3_ := Aside0.mk (below_step (by repeat (first | (with_reducible first | exact HB.out | apply below_alloc | apply pw_below_drewN | apply below_drew1 | refine below_set ?_ GE146.out | refine below_set ?_ GE157.out | refine below_set ?_ GE162.out) | exact HB.out)) hb); have n4_ := Aside0.mk ((by rw [hg]; exact (below_size (by repeat (first | (with_reducible first | exact HB.out | apply below_alloc | apply pw_below_drewN | apply below_drew1 | refine below_set ?_ GE146.out | refine below_set ?_ GE157.out | refine below_set ?_ GE162.out) | exact HB.out))) : w.heap.size ≤ gb167)); have n5_ := Aside0.mk ((by rw [hg]; exact (below_size (by repeat (first | (with_reducible first | exact HB.out | apply below_alloc | apply pw_below_drewN | apply below_drew1 | refine below_set ?_ GE146.out | refine below_set ?_ GE157.out | refine below_set ?_ GE162.out) | exact HB.out))) : w.heap.size ≤ gb167)); have n6_ := Aside0.mk ((by rw [hg]; exact Nat.ne_of_lt (blk_lt (g := gb146) (o := .cells #[.int .i64 a0_0, .int .i64 a0_1, .int .i64 a0_2] 23 (0, 0)) (by (with_reducible repeat (first | refine blk_drewN ?_ _ | refine blk_drew ?_ | refine blk_alloc ?_ _)); exact BK146.out)) : gb146 ≠ gb167)); have n7_ := Aside0.mk ((by rw [hg]; exact Nat.ne_of_gt (blk_lt (g := gb146) (o := .cells #[.int .i64 a0_0, .int .i64 a0_1, .int .i64 a0_2] 23 (0, 0)) (by (with_reducible repeat (first | refine blk_drewN ?_ _ | refine blk_drew ?_ | refine blk_alloc ?_ _)); exact BK146.out)) : gb167 ≠ gb146)); have n8_ := Aside0.mk ((by rw [hg]; exact Nat.ne_of_lt (blk_lt (g := gb157) (o := .cells #[.int .i64 t148, .int .i64 t149, .int .i64 t150, .int .i64 t151, .int .i64 t152, .int .i64 t153, .int .i64 t154, .int .i64 t155, .bool t156] 28 (0, 0)) (by (with_reducible repeat (first | refine blk_drewN ?_ _ | refine blk_drew ?_ | refine blk_alloc ?_ _)); exact BK157.out)) : gb157 ≠ gb167)); have n9_ := Aside0.mk ((by rw [hg]; exact Nat.ne_of_gt (blk_lt (g := gb157) (o := .cells #[.int .i64 t148, .int .i64 t149, .int .i64 t150, .int .i64 t151, .int .i64 t152, .int .i64 t153, .int .i64 t154, .int .i64 t155, .bool t156] 28 (0, 0)) (by (with_reducible repeat (first | refine blk_drewN ?_ _ | refine blk_drew ?_ | refine blk_alloc ?_ _)); exact BK157.out)) : gb167 ≠ gb157)); have n10_ := Aside0.mk ((by rw [hg]; exact Nat.ne_of_lt (blk_lt (g := gb162) (o := .cells #[.int .i64 t158, .int .i64 t159, .int .i64 t160, .int .i64 t161] 31 (0, 0)) (by (with_reducible repeat (first | refine blk_drewN ?_ _ | refine blk_drew ?_ | refine blk_alloc ?_ _)); exact BK162.out)) : gb162 ≠ gb167)); have n11_ := Aside0.mk ((by rw [hg]; exact Nat.ne_of_gt (blk_lt (g := gb162) (o := .cells #[.int .i64 t158, .int .i64 t159, .int .i64 t160, .int .i64 t161] 31 (0, 0)) (by (with_reducible repeat (first | refine blk_drewN ?_ _ | refine blk_drew ?_ | refine blk_alloc ?_ _)); exact BK162.out)) : gb167 ≠ gb162)); have n12_ := Aside0.mk ((show IsS36 w w24 gb167 0 0 0 0 from ⟨hbox, by rw [hg]; exact (below_size (by repeat (first | (with_reducible first | exact HB.out | apply below_alloc | apply pw_below_drewN | apply below_drew1 | refine below_set ?_ GE146.out | refine below_set ?_ GE157.out | refine below_set ?_ GE162.out) | exact HB.out)))⟩)); clear BK146; clear BK157; clear BK162; clear HB; have BK146 := n0_; have BK157 := n1_; have BK162 := n2_; have HB := n3_; have GW167 := n4_; have GE167 := n5_; have NB146_167 := n6_; have NB167_146 := n7_; have NB157_167 := n8_; have NB167_157 := n9_; have NB162_167 := n10_; have NB167_162 := n11_; have HI167 := n12_; clear n0_ n1_ n2_ n3_ n4_ n5_ n6_ n7_ n8_ n9_ n10_ n11_ n12_; clear hb hbox hg; obtain ⟨HGz25, hgz25⟩ := HI167.out; have hcz25_0 := cellS36_0 HGz25; have hcz25_1 := cellS36_1 HGz25; have hcz25_2 := cellS36_2 HGz25; have hcz25_3 := cellS36_3 HGz25; have hfz25_0 := blk_frozen HGz25 0; have hfz25_1 := blk_frozen HGz25 1; have hfz25_2 := blk_frozen HGz25 2; have hfz25_3 := blk_frozen HGz25 3; clear HGz25 hgz25))
      go_loopg [8, 25] k (fun kq v8 v25 w' => ∃ (x8_1 : Int) (x25_1 : Int) (x168000_1 : Int) (x168001_1 : Int) (x168002_1 : Int) (x168003_1 : Int), v8 = .int .i64 x8_1 ∧ v25 = .int .i64 x25_1 ∧ Aside0 (weighbridgelaw09_CellMore.l0 kq x8_1 l1 (l1.length : Int) x25_1 t148 t149 t150 t151 t152 t153 t154 t155 t156 t158 t159 t160 t161 x168000_1 x168001_1 x168002_1 x168003_1 = some r) ∧ Aside0 (kq ≤ k) ∧ Aside0 (w'.heap[gb146]? = some (.cells #[.int .i64 a0_0, .int .i64 a0_1, .int .i64 a0_2] 23 (0, 0))) ∧ Aside0 (w'.heap[gb157]? = some (.cells #[.int .i64 t148, .int .i64 t149, .int .i64 t150, .int .i64 t151, .int .i64 t152, .int .i64 t153, .int .i64 t154, .int .i64 t155, .bool t156] 28 (0, 0))) ∧ Aside0 (w'.heap[gb162]? = some (.cells #[.int .i64 t158, .int .i64 t159, .int .i64 t160, .int .i64 t161] 31 (0, 0))) ∧ Aside0 (IsS36 w w' gb167 x168000_1 x168001_1 x168002_1 x168003_1) ∧ Aside0 (Below w.heap.size w w'))
      case atStart => exact ⟨(0), (0), (t163), (t164), (t165), (t166), (by first | rfl | (simp; done) | (simp [*]; done)), (by first | rfl | (simp; done) | (simp [*]; done)), H', ⟨Nat.le_refl _⟩, ⟨by (with_reducible repeat (first | refine blk_drewN ?_ _ | refine blk_drew ?_ | refine blk_alloc ?_ _)); refine blk_far ?_ NB146_167.out _; (with_reducible repeat (first | refine blk_drewN ?_ _ | refine blk_drew ?_ | refine blk_alloc ?_ _)); refine blk_far ?_ NB146_167.out _; (with_reducible repeat (first | refine blk_drewN ?_ _ | refine blk_drew ?_ | refine blk_alloc ?_ _)); refine blk_far ?_ NB146_167.out _; (with_reducible repeat (first | refine blk_drewN ?_ _ | refine blk_drew ?_ | refine blk_alloc ?_ _)); refine blk_far ?_ NB146_167.out _; (with_reducible repeat (first | refine blk_drewN ?_ _ | refine blk_drew ?_ | refine blk_alloc ?_ _)); exact BK146.out⟩, ⟨by (with_reducible repeat (first | refine blk_drewN ?_ _ | refine blk_drew ?_ | refine blk_alloc ?_ _)); refine blk_far ?_ NB157_167.out _; (with_reducible repeat (first | refine blk_drewN ?_ _ | refine blk_drew ?_ | refine blk_alloc ?_ _)); refine blk_far ?_ NB157_167.out _; (with_reducible repeat (first | refine blk_drewN ?_ _ | refine blk_drew ?_ | refine blk_alloc ?_ _)); refine blk_far ?_ NB157_167.out _; (with_reducible repeat (first | refine blk_drewN ?_ _ | refine blk_drew ?_ | refine blk_alloc ?_ _)); refine blk_far ?_ NB157_167.out _; (with_reducible repeat (first | refine blk_drewN ?_ _ | refine blk_drew ?_ | refine blk_alloc ?_ _)); exact BK157.out⟩, ⟨by (with_reducible repeat (first | refine blk_drewN ?_ _ | refine blk_drew ?_ | refine blk_alloc ?_ _)); refine blk_far ?_ NB162_167.out _; (with_reducible repeat (first | refine blk_drewN ?_ _ | refine blk_drew ?_ | refine blk_alloc ?_ _)); refine blk_far ?_ NB162_167.out _; (with_reducible repeat (first | refine blk_drewN ?_ _ | refine blk_drew ?_ | refine blk_alloc ?_ _)); refine blk_far ?_ NB162_167.out _; (with_reducible repeat (first | refine blk_drewN ?_ _ | refine blk_drew ?_ | refine blk_alloc ?_ _)); refine blk_far ?_ NB162_167.out _; (with_reducible repeat (first | refine blk_drewN ?_ _ | refine blk_drew ?_ | refine blk_alloc ?_ _)); exact BK162.out⟩, ⟨by repeat (first | (with_reducible first | exact HI167.out | apply IsS36.alloc | apply IsS36.drewN | apply IsS36.drew | apply IsS36.set_0 | apply IsS36.set_1 | apply IsS36.set_2 | apply IsS36.set_3 | refine IsS36.far ?_ NB167_146.out _ | refine IsS36.far ?_ NB167_157.out _ | refine IsS36.far ?_ NB167_162.out _) | exact HI167.out)⟩, ⟨by repeat (first | (with_reducible first | exact HB.out | apply below_alloc | apply pw_below_drewN | apply below_drew1 | refine below_set ?_ (IsS36.ge HI167.out) | refine below_set ?_ GE146.out | refine below_set ?_ GE157.out | refine below_set ?_ GE162.out) | exact HB.out)⟩⟩
      case round =>
        clear H'
        try clear c1
        try clear c2
        try clear p2
        try clear c4
        try clear c5
        try clear c5b0
        try clear c5b1
        try clear c6
        try clear c11
        try clear c12
        try clear c13
        try clear c15
        try clear c16
        try clear c20
        try clear c21
        try clear hcz13_0
        try clear hcz13_1
        try clear hcz13_2
        try clear hcz17_0
        try clear hcz17_1
        try clear hcz17_2
        try clear hcz17_3
        try clear hcz17_4
        try clear hcz17_5
        try clear hcz17_6
        try clear hcz17_7
        try clear hcz17_8
        try clear hcz22_0
        try clear hcz22_1
        try clear hcz22_2
        try clear hcz22_3
        try clear hcz25_0
        try clear hcz25_1
        try clear hcz25_2
        try clear hcz25_3
        try clear hfz13_0
        try clear hfz13_1
        try clear hfz13_2
        try clear hfz17_0
        try clear hfz17_1
        try clear hfz17_2
        try clear hfz17_3
        try clear hfz17_4
        try clear hfz17_5
        try clear hfz17_6
        try clear hfz17_7
        try clear hfz17_8
        try clear hfz22_0
        try clear hfz22_1
        try clear hfz22_2
        try clear hfz22_3
        try clear hfz25_0
        try clear hfz25_1
        try clear hfz25_2
        try clear hfz25_3
        obtain ⟨x8_1, x25_1, x168000_1, x168001_1, x168002_1, x168003_1, rfl, rfl, HA, HK1, BK146, BK157, BK162, HI167, HB⟩ := hrel
        cases gk with
        | zero => exact absurd HA.out (by simp [weighbridgelaw09_CellMore.l0])
        | succ k1 =>
          have H := HA.out
          clear HA
          simp only [weighbridgelaw09_CellMore.l0] at H
          by_cases c26 : x25_1 < (l1.length : Int)
          · rw [if_pos c26] at H
            have c26b0 : decide (x25_1 < (l1.length : Int)) = true := decide_eq_true c26
            clear c26
            by_cases c27 : 0 ≤ x25_1
            · rw [if_pos c27] at H
              have c27b0 : decide (0 ≤ x25_1) = true := decide_eq_true c27
              clear c27
              by_cases c28 : x25_1 < (l1.length : Int)
              · rw [if_pos c28] at H
                have c28b0 : decide (x25_1 < (l1.length : Int)) = true := decide_eq_true c28
                clear c28
                replace H := Option.bind_eq_some_iff.mp H
                obtain ⟨t171, A290, H⟩ := H
                replace H : ((cell_Cell_Room.f k1 x168000_1 x168001_1 x168002_1 x168003_1 t158 t159 t160 t161 (wrap64 (x8_1 + t171))).bind fun t172 => (if t172 < 0 then (weighbridgelaw09_CellMore.j1 k1 (wrap64 (x8_1 + t171)) t172 l1 (l1.length : Int) x25_1 true t148 t149 t150 t151 t152 t153 t154 t155 t156 t158 t159 t160 t161 x168000_1 x168001_1 x168002_1 x168003_1 ((rd_T40 l1 x25_1).f0) ((rd_T40 l1 x25_1).f1)) else (if t172 > t150 then (weighbridgelaw09_CellMore.j1 k1 (wrap64 (x8_1 + t171)) t172 l1 (l1.length : Int) x25_1 true t148 t149 t150 t151 t152 t153 t154 t155 t156 t158 t159 t160 t161 x168000_1 x168001_1 x168002_1 x168003_1 ((rd_T40 l1 x25_1).f0) ((rd_T40 l1 x25_1).f1)) else ((cell_Cell_Room.f k1 x168000_1 x168001_1 x168002_1 x168003_1 t158 t159 t160 t161 (wrap64 ((wrap64 (x8_1 + t171)) + 3))).bind fun t173 => (weighbridgelaw09_CellMore.j1 k1 (wrap64 (x8_1 + t171)) t172 l1 (l1.length : Int) x25_1 (decide (t173 < t172)) t148 t149 t150 t151 t152 t153 t154 t155 t156 t158 t159 t160 t161 x168000_1 x168001_1 x168002_1 x168003_1 ((rd_T40 l1 x25_1).f0) ((rd_T40 l1 x25_1).f1)))))) = some r := H
                have A29 := Aside0.mk A290
                clear A290
                replace H := Option.bind_eq_some_iff.mp H
                obtain ⟨t172, A300, H⟩ := H
                replace H : (if t172 < 0 then (weighbridgelaw09_CellMore.j1 k1 (wrap64 (x8_1 + t171)) t172 l1 (l1.length : Int) x25_1 true t148 t149 t150 t151 t152 t153 t154 t155 t156 t158 t159 t160 t161 x168000_1 x168001_1 x168002_1 x168003_1 ((rd_T40 l1 x25_1).f0) ((rd_T40 l1 x25_1).f1)) else (if t172 > t150 then (weighbridgelaw09_CellMore.j1 k1 (wrap64 (x8_1 + t171)) t172 l1 (l1.length : Int) x25_1 true t148 t149 t150 t151 t152 t153 t154 t155 t156 t158 t159 t160 t161 x168000_1 x168001_1 x168002_1 x168003_1 ((rd_T40 l1 x25_1).f0) ((rd_T40 l1 x25_1).f1)) else ((cell_Cell_Room.f k1 x168000_1 x168001_1 x168002_1 x168003_1 t158 t159 t160 t161 (wrap64 ((wrap64 (x8_1 + t171)) + 3))).bind fun t173 => (weighbridgelaw09_CellMore.j1 k1 (wrap64 (x8_1 + t171)) t172 l1 (l1.length : Int) x25_1 (decide (t173 < t172)) t148 t149 t150 t151 t152 t153 t154 t155 t156 t158 t159 t160 t161 x168000_1 x168001_1 x168002_1 x168003_1 ((rd_T40 l1 x25_1).f0) ((rd_T40 l1 x25_1).f1))))) = some r := H
                have A30 := Aside0.mk A300
                clear A300
                have HC31 := Aside0.mk H
                clear H
                have p169 : 0 ≤ (x25_1 : Int) := of_decide_eq_true (by first | (with_reducible assumption) | assumption)
                have q169 : x25_1 < (l1.length : Int) := of_decide_eq_true (by first | (with_reducible assumption) | assumption)
                obtain ⟨ad169, e169, hx169_0, hx169_1⟩ := at_T40 HR1.out x25_1 p169 q169
                cases e169
                replace hx169_0 := (HB.out.cell (World.block_lt_of_cell? w _ hx169_0)).trans hx169_0
                replace hx169_1 := (HB.out.cell (World.block_lt_of_cell? w _ hx169_1)).trans hx169_1
                replace p169 := eq_true p169
                replace q169 := eq_true q169
                go_upto_region 14 with (first | ((with_reducible refine gate_dst (N := 10) rfl ?_); refine box_event ?hg (N := 10) ?hd (cs := #[.int .i64 0, .int .i64 0]) (t := 40) ?hr ?_; (case hd => rfl); (case hg => rfl); (case hr => first | (go_simp; done) | (go_simp; rfl)); intro gb170 hg w32 hbox hb; have n0_ := Aside0.mk (blk_below (g := gb146) (o := .cells #[.int .i64 a0_0, .int .i64 a0_1, .int .i64 a0_2] 23 (0, 0)) (by (with_reducible repeat (first | refine blk_drewN ?_ _ | refine blk_drew ?_ | refine blk_alloc ?_ _)); exact BK146.out) hb); have n1_ := Aside0.mk (blk_below (g := gb157) (o := .cells #[.int .i64 t148, .int .i64 t149, .int .i64 t150, .int .i64 t151, .int .i64 t152, .int .i64 t153, .int .i64 t154, .int .i64 t155, .bool t156] 28 (0, 0)) (by (with_reducible repeat (first | refine blk_drewN ?_ _ | refine blk_drew ?_ | refine blk_alloc ?_ _)); exact BK157.out) hb); have n2_ := Aside0.mk (blk_below (g := gb162) (o := .cells #[.int .i64 t158, .int .i64 t159, .int .i64 t160, .int .i64 t161] 31 (0, 0)) (by (with_reducible repeat (first | refine blk_drewN ?_ _ | refine blk_drew ?_ | refine blk_alloc ?_ _)); exact BK162.out) hb); have n3_ := Aside0.mk (IsS36.below (by repeat (first | (with_reducible first | exact HI167.out | apply IsS36.alloc | apply IsS36.drewN | apply IsS36.drew | apply IsS36.set_0 | apply IsS36.set_1 | apply IsS36.set_2 | apply IsS36.set_3 | refine IsS36.far ?_ NB167_146.out _ | refine IsS36.far ?_ NB167_157.out _ | refine IsS36.far ?_ NB167_162.out _) | exact HI167.out)) hb); have n4_ := Aside0.mk (below_step (by repeat (first | (with_reducible first | exact HB.out | apply below_alloc | apply pw_below_drewN | apply below_drew1 | refine below_set ?_ (IsS36.ge HI167.out) | refine below_set ?_ GE146.out | refine below_set ?_ GE157.out | refine below_set ?_ GE162.out) | exact HB.out)) hb); have n5_ := Aside0.mk (hbox); have n6_ := Aside0.mk ((by rw [hg]; exact (below_size (by repeat (first | (with_reducible first | exact HB.out | apply below_alloc | apply pw_below_drewN | apply below_drew1 | refine below_set ?_ (IsS36.ge HI167.out) | refine below_set ?_ GE146.out | refine below_set ?_ GE157.out | refine below_set ?_ GE162.out) | exact HB.out))) : w.heap.size ≤ gb170)); have n7_ := Aside0.mk ((by rw [hg]; exact (below_size (by repeat (first | (with_reducible first | exact HB.out | apply below_alloc | apply pw_below_drewN | apply below_drew1 | refine below_set ?_ (IsS36.ge HI167.out) | refine below_set ?_ GE146.out | refine below_set ?_ GE157.out | refine below_set ?_ GE162.out) | exact HB.out))) : w.heap.size ≤ gb170)); have n8_ := Aside0.mk ((by rw [hg]; exact Nat.ne_of_lt (blk_lt (g := gb146) (o := .cells #[.int .i64 a0_0, .int .i64 a0_1, .int .i64 a0_2] 23 (0, 0)) (by (with_reducible repeat (first | refine blk_drewN ?_ _ | refine blk_drew ?_ | refine blk_alloc ?_ _)); exact BK146.out)) : gb146 ≠ gb170)); have n9_ := Aside0.mk ((by rw [hg]; exact Nat.ne_of_gt (blk_lt (g := gb146) (o := .cells #[.int .i64 a0_0, .int .i64 a0_1, .int .i64 a0_2] 23 (0, 0)) (by (with_reducible repeat (first | refine blk_drewN ?_ _ | refine blk_drew ?_ | refine blk_alloc ?_ _)); exact BK146.out)) : gb170 ≠ gb146)); have n10_ := Aside0.mk ((by rw [hg]; exact Nat.ne_of_lt (blk_lt (g := gb157) (o := .cells #[.int .i64 t148, .int .i64 t149, .int .i64 t150, .int .i64 t151, .int .i64 t152, .int .i64 t153, .int .i64 t154, .int .i64 t155, .bool t156] 28 (0, 0)) (by (with_reducible repeat (first | refine blk_drewN ?_ _ | refine blk_drew ?_ | refine blk_alloc ?_ _)); exact BK157.out)) : gb157 ≠ gb170)); have n11_ := Aside0.mk ((by rw [hg]; exact Nat.ne_of_gt (blk_lt (g := gb157) (o := .cells #[.int .i64 t148, .int .i64 t149, .int .i64 t150, .int .i64 t151, .int .i64 t152, .int .i64 t153, .int .i64 t154, .int .i64 t155, .bool t156] 28 (0, 0)) (by (with_reducible repeat (first | refine blk_drewN ?_ _ | refine blk_drew ?_ | refine blk_alloc ?_ _)); exact BK157.out)) : gb170 ≠ gb157)); have n12_ := Aside0.mk ((by rw [hg]; exact Nat.ne_of_lt (blk_lt (g := gb162) (o := .cells #[.int .i64 t158, .int .i64 t159, .int .i64 t160, .int .i64 t161] 31 (0, 0)) (by (with_reducible repeat (first | refine blk_drewN ?_ _ | refine blk_drew ?_ | refine blk_alloc ?_ _)); exact BK162.out)) : gb162 ≠ gb170)); have n13_ := Aside0.mk ((by rw [hg]; exact Nat.ne_of_gt (blk_lt (g := gb162) (o := .cells #[.int .i64 t158, .int .i64 t159, .int .i64 t160, .int .i64 t161] 31 (0, 0)) (by (with_reducible repeat (first | refine blk_drewN ?_ _ | refine blk_drew ?_ | refine blk_alloc ?_ _)); exact BK162.out)) : gb170 ≠ gb162)); have n14_ := Aside0.mk ((by rw [hg]; exact Nat.ne_of_lt (IsS36.lt (show IsS36 w _ gb167 x168000_1 x168001_1 x168002_1 x168003_1 from by repeat (first | (with_reducible first | exact HI167.out | apply IsS36.alloc | apply IsS36.drewN | apply IsS36.drew | apply IsS36.set_0 | apply IsS36.set_1 | apply IsS36.set_2 | apply IsS36.set_3 | refine IsS36.far ?_ NB167_146.out _ | refine IsS36.far ?_ NB167_157.out _ | refine IsS36.far ?_ NB167_162.out _) | exact HI167.out))) : gb167 ≠ gb170)); have n15_ := Aside0.mk ((by rw [hg]; exact Nat.ne_of_gt (IsS36.lt (show IsS36 w _ gb167 x168000_1 x168001_1 x168002_1 x168003_1 from by repeat (first | (with_reducible first | exact HI167.out | apply IsS36.alloc | apply IsS36.drewN | apply IsS36.drew | apply IsS36.set_0 | apply IsS36.set_1 | apply IsS36.set_2 | apply IsS36.set_3 | refine IsS36.far ?_ NB167_146.out _ | refine IsS36.far ?_ NB167_157.out _ | refine IsS36.far ?_ NB167_162.out _) | exact HI167.out))) : gb170 ≠ gb167)); clear BK146; clear BK157; clear BK162; clear HI167; clear HB; have BK146 := n0_; have BK157 := n1_; have BK162 := n2_; have HI167 := n3_; have HB := n4_; have BK170 := n5_; have GW170 := n6_; have GE170 := n7_; have NB146_170 := n8_; have NB170_146 := n9_; have NB157_170 := n10_; have NB170_157 := n11_; have NB162_170 := n12_; have NB170_162 := n13_; have NB167_170 := n14_; have NB170_167 := n15_; clear n0_ n1_ n2_ n3_ n4_ n5_ n6_ n7_ n8_ n9_ n10_ n11_ n12_ n13_ n14_ n15_; clear hb hbox hg; have hnb33 := NB170_146.out; have hnc33 := NB146_170.out; have hnb34 := NB170_157.out; have hnc34 := NB157_170.out; have hnb35 := NB170_162.out; have hnc35 := NB162_170.out; have hnb36 := NB170_167.out; have hnc36 := NB167_170.out; have hcz37_0 : w32.cell? ⟨gb170, 0, none⟩ = some (.int .i64 0) := (blk_cell BK170.out 0).trans rfl; have hcz37_1 : w32.cell? ⟨gb170, 1, none⟩ = some (.int .i64 0) := (blk_cell BK170.out 1).trans rfl; have hfz37_0 := blk_frozen BK170.out 0; have hfz37_1 := blk_frozen BK170.out 1) | ((with_reducible refine gate_callee (f := 16) rfl ?_); refine goesL_ (some 32) rfl rfl Try.func16 (by kernel_rfl) rfl #[.int .i64 ((rd_T40 l1 x25_1).f0)] rfl (by (try simp only [List.map_toArray, List.map_cons, List.map_nil]); first | done | rfl | (simp only [List.length_drop, List.length_take]; rfl)) ?_; (with_reducible refine (weighbridgelaw09_gap.calls ((rd_T40 l1 x25_1).f0) t171 _ A29.out).mono ?_); rintro e w' ⟨rfl, ⟨nd, rfl⟩⟩; refine ⟨_, rfl, ?_⟩; obtain ⟨HGz38, hgz38⟩ := HI167.out; have hcz38_0 := cellS36_0 HGz38; have hcz38_1 := cellS36_1 HGz38; have hcz38_2 := cellS36_2 HGz38; have hcz38_3 := cellS36_3 HGz38; have hfz38_0 := blk_frozen HGz38 0; have hfz38_1 := blk_frozen HGz38 1; have hfz38_2 := blk_frozen HGz38 2; have hfz38_3 := blk_frozen HGz38 3; clear HGz38 hgz38; have hnb39 := NB162_146.out; have hnc39 := NB146_162.out; have hnb40 := NB162_157.out; have hnc40 := NB157_162.out; have hnb41 := NB162_167.out; have hnc41 := NB167_162.out; have hcz42_0 : w32.cell? ⟨gb162, 0, none⟩ = some (.int .i64 t158) := (blk_cell BK162.out 0).trans rfl; have hcz42_1 : w32.cell? ⟨gb162, 1, none⟩ = some (.int .i64 t159) := (blk_cell BK162.out 1).trans rfl; have hcz42_2 : w32.cell? ⟨gb162, 2, none⟩ = some (.int .i64 t160) := (blk_cell BK162.out 2).trans rfl; have hcz42_3 : w32.cell? ⟨gb162, 3, none⟩ = some (.int .i64 t161) := (blk_cell BK162.out 3).trans rfl; have hfz42_0 := blk_frozen BK162.out 0; have hfz42_1 := blk_frozen BK162.out 1; have hfz42_2 := blk_frozen BK162.out 2; have hfz42_3 := blk_frozen BK162.out 3) | ((with_reducible refine gate_callee (f := 17) rfl ?_); refine goesL_ (some 37) rfl rfl Try.func17 (by kernel_rfl) rfl #[.agg #[.int .i64 x168000_1, .int .i64 x168001_1, .int .i64 x168002_1, .int .i64 x168003_1], .agg #[.int .i64 t158, .int .i64 t159, .int .i64 t160, .int .i64 t161], .int .i64 (wrap64 (x8_1 + t171))] rfl (by (try simp only [List.map_toArray, List.map_cons, List.map_nil]); first | done | rfl | (simp only [List.length_drop, List.length_take]; rfl)) ?_; (with_reducible refine (cell_Cell_Room.calls k1 x168000_1 x168001_1 x168002_1 x168003_1 t158 t159 t160 t161 (wrap64 (x8_1 + t171)) t172 _ A30.out).mono ?_); rintro e w43 ⟨rfl, hb⟩; refine ⟨_, rfl, ?_⟩; have n0_ := Aside0.mk (blk_below (g := gb146) (o := .cells #[.int .i64 a0_0, .int .i64 a0_1, .int .i64 a0_2] 23 (0, 0)) (by (with_reducible repeat (first | refine blk_drewN ?_ _ | refine blk_drew ?_ | refine blk_alloc ?_ _)); refine blk_far ?_ NB146_170.out _; (with_reducible repeat (first | refine blk_drewN ?_ _ | refine blk_drew ?_ | refine blk_alloc ?_ _)); refine blk_far ?_ NB146_170.out _; (with_reducible repeat (first | refine blk_drewN ?_ _ | refine blk_drew ?_ | refine blk_alloc ?_ _)); exact BK146.out) hb); have n1_ := Aside0.mk (blk_below (g := gb157) (o := .cells #[.int .i64 t148, .int .i64 t149, .int .i64 t150, .int .i64 t151, .int .i64 t152, .int .i64 t153, .int .i64 t154, .int .i64 t155, .bool t156] 28 (0, 0)) (by (with_reducible repeat (first | refine blk_drewN ?_ _ | refine blk_drew ?_ | refine blk_alloc ?_ _)); refine blk_far ?_ NB157_170.out _; (with_reducible repeat (first | refine blk_drewN ?_ _ | refine blk_drew ?_ | refine blk_alloc ?_ _)); refine blk_far ?_ NB157_170.out _; (with_reducible repeat (first | refine blk_drewN ?_ _ | refine blk_drew ?_ | refine blk_alloc ?_ _)); exact BK157.out) hb); have n2_ := Aside0.mk (blk_below (g := gb162) (o := .cells #[.int .i64 t158, .int .i64 t159, .int .i64 t160, .int .i64 t161] 31 (0, 0)) (by (with_reducible repeat (first | refine blk_drewN ?_ _ | refine blk_drew ?_ | refine blk_alloc ?_ _)); refine blk_far ?_ NB162_170.out _; (with_reducible repeat (first | refine blk_drewN ?_ _ | refine blk_drew ?_ | refine blk_alloc ?_ _)); refine blk_far ?_ NB162_170.out _; (with_reducible repeat (first | refine blk_drewN ?_ _ | refine blk_drew ?_ | refine blk_alloc ?_ _)); exact BK162.out) hb); have n3_ := Aside0.mk (IsS36.below (show IsS36 w _ gb167 x168000_1 x168001_1 x168002_1 x168003_1 from by repeat (first | (with_reducible first | exact HI167.out | apply IsS36.alloc | apply IsS36.drewN | apply IsS36.drew | apply IsS36.set_0 | apply IsS36.set_1 | apply IsS36.set_2 | apply IsS36.set_3 | refine IsS36.far ?_ NB167_146.out _ | refine IsS36.far ?_ NB167_157.out _ | refine IsS36.far ?_ NB167_162.out _ | refine IsS36.far ?_ NB167_170.out _) | exact HI167.out)) hb); have n4_ := Aside0.mk (blk_below (g := gb170) (o := .cells #[.int .i64 ((rd_T40 l1 x25_1).f0), .int .i64 ((rd_T40 l1 x25_1).f1)] 40 (0, 0)) (by (with_reducible repeat (first | refine blk_drewN ?_ _ | refine blk_drew ?_ | refine blk_alloc ?_ _)); refine blk_put (cs := #[.int .i64 ((rd_T40 l1 x25_1).f0), .int .i64 0]) ?_ 1 _ rfl; (with_reducible repeat (first | refine blk_drewN ?_ _ | refine blk_drew ?_ | refine blk_alloc ?_ _)); refine blk_put (cs := #[.int .i64 0, .int .i64 0]) ?_ 0 _ rfl; (with_reducible repeat (first | refine blk_drewN ?_ _ | refine blk_drew ?_ | refine blk_alloc ?_ _)); exact BK170.out) hb); have n5_ := Aside0.mk (below_step (by repeat (first | (with_reducible first | exact HB.out | apply below_alloc | apply pw_below_drewN | apply below_drew1 | refine below_set ?_ (IsS36.ge HI167.out) | refine below_set ?_ GE146.out | refine below_set ?_ GE157.out | refine below_set ?_ GE162.out | refine below_set ?_ GE170.out) | exact HB.out)) hb); clear BK146; clear BK157; clear BK162; clear HI167; clear BK170; clear HB; have BK146 := n0_; have BK157 := n1_; have BK162 := n2_; have HI167 := n3_; have BK170 := n4_; have HB := n5_; clear n0_ n1_ n2_ n3_ n4_ n5_; (try clear hb); (try clear hb2); (try clear hk); (try clear hi)))
                (try simp only [Act.put, List.setIfInBounds_toArray, List.set_cons_zero, List.set_cons_succ])
                go_cut [54] (fun v54 wc => ∃ (kq : Nat) (x54_30 : Bool), v54 = .bool x54_30 ∧ Aside0 (weighbridgelaw09_CellMore.j1 kq (wrap64 (x8_1 + t171)) t172 l1 (l1.length : Int) x25_1 x54_30 t148 t149 t150 t151 t152 t153 t154 t155 t156 t158 t159 t160 t161 x168000_1 x168001_1 x168002_1 x168003_1 ((rd_T40 l1 x25_1).f0) ((rd_T40 l1 x25_1).f1) = some r) ∧ Aside0 (kq ≤ k1) ∧ Aside0 (wc.heap[gb146]? = some (.cells #[.int .i64 a0_0, .int .i64 a0_1, .int .i64 a0_2] 23 (0, 0))) ∧ Aside0 (wc.heap[gb157]? = some (.cells #[.int .i64 t148, .int .i64 t149, .int .i64 t150, .int .i64 t151, .int .i64 t152, .int .i64 t153, .int .i64 t154, .int .i64 t155, .bool t156] 28 (0, 0))) ∧ Aside0 (wc.heap[gb162]? = some (.cells #[.int .i64 t158, .int .i64 t159, .int .i64 t160, .int .i64 t161] 31 (0, 0))) ∧ Aside0 (wc.heap[gb170]? = some (.cells #[.int .i64 ((rd_T40 l1 x25_1).f0), .int .i64 ((rd_T40 l1 x25_1).f1)] 40 (0, 0))) ∧ Aside0 (IsS36 w wc gb167 x168000_1 x168001_1 x168002_1 x168003_1) ∧ Aside0 (Below w.heap.size w wc))
                case first =>
                  have H := HC31.out
                  clear HC31
                  by_cases c44 : t172 < 0
                  · rw [if_pos c44] at H
                    have c44b0 : decide (t172 < 0) = true := decide_eq_true c44
                    clear c44
                    (first | rw [c44b0] | (simp only [i64_w, i32_w]; rw [c44b0]) | skip)
                    have H' := Aside0.mk H
                    clear H
                    go_wp2
                    go_meet
                    case rel => exact ⟨_, (true), (by first | rfl | (simp; done) | (simp [*]; done)), H', ⟨by have := HK1.out; first | omega | exact Nat.le_refl _⟩, ⟨by (with_reducible repeat (first | refine blk_drewN ?_ _ | refine blk_drew ?_ | refine blk_alloc ?_ _)); exact BK146.out⟩, ⟨by (with_reducible repeat (first | refine blk_drewN ?_ _ | refine blk_drew ?_ | refine blk_alloc ?_ _)); exact BK157.out⟩, ⟨by (with_reducible repeat (first | refine blk_drewN ?_ _ | refine blk_drew ?_ | refine blk_alloc ?_ _)); exact BK162.out⟩, ⟨by (with_reducible repeat (first | refine blk_drewN ?_ _ | refine blk_drew ?_ | refine blk_alloc ?_ _)); exact BK170.out⟩, ⟨by repeat (first | (with_reducible first | exact HI167.out | apply IsS36.alloc | apply IsS36.drewN | apply IsS36.drew | apply IsS36.set_0 | apply IsS36.set_1 | apply IsS36.set_2 | apply IsS36.set_3 | refine IsS36.far ?_ NB167_146.out _ | refine IsS36.far ?_ NB167_157.out _ | refine IsS36.far ?_ NB167_162.out _ | refine IsS36.far ?_ NB167_170.out _) | exact HI167.out)⟩, ⟨by repeat (first | (with_reducible first | exact HB.out | apply below_alloc | apply pw_below_drewN | apply below_drew1 | refine below_set ?_ (IsS36.ge HI167.out) | refine below_set ?_ GE146.out | refine below_set ?_ GE157.out | refine below_set ?_ GE162.out | refine below_set ?_ GE170.out) | exact HB.out)⟩⟩
                  · rw [if_neg c44] at H
                    have c44b0 : decide (t172 < 0) = false := decide_eq_false c44
                    clear c44
                    (first | rw [c44b0] | (simp only [i64_w, i32_w]; rw [c44b0]) | skip)
                    by_cases c45 : t172 > t150
                    · rw [if_pos c45] at H
                      have c45b0 : decide (t150 < t172) = true := decide_eq_true c45
                      clear c45
                      have H' := Aside0.mk H
                      clear H
                      have hnb46 := NB157_146.out
                      have hnc46 := NB146_157.out
                      have hnb47 := NB157_162.out
                      have hnc47 := NB162_157.out
                      have hnb48 := NB157_170.out
                      have hnc48 := NB170_157.out
                      have hnb49 := NB157_167.out
                      have hnc49 := NB167_157.out
                      have hcz50_0 : w43.cell? ⟨gb157, 0, none⟩ = some (.int .i64 t148) := (blk_cell BK157.out 0).trans rfl
                      have hcz50_1 : w43.cell? ⟨gb157, 1, none⟩ = some (.int .i64 t149) := (blk_cell BK157.out 1).trans rfl
                      have hcz50_2 : w43.cell? ⟨gb157, 2, none⟩ = some (.int .i64 t150) := (blk_cell BK157.out 2).trans rfl
                      have hcz50_3 : w43.cell? ⟨gb157, 3, none⟩ = some (.int .i64 t151) := (blk_cell BK157.out 3).trans rfl
                      have hcz50_4 : w43.cell? ⟨gb157, 4, none⟩ = some (.int .i64 t152) := (blk_cell BK157.out 4).trans rfl
                      have hcz50_5 : w43.cell? ⟨gb157, 5, none⟩ = some (.int .i64 t153) := (blk_cell BK157.out 5).trans rfl
                      have hcz50_6 : w43.cell? ⟨gb157, 6, none⟩ = some (.int .i64 t154) := (blk_cell BK157.out 6).trans rfl
                      have hcz50_7 : w43.cell? ⟨gb157, 7, none⟩ = some (.int .i64 t155) := (blk_cell BK157.out 7).trans rfl
                      have hcz50_8 : w43.cell? ⟨gb157, 8, none⟩ = some (.bool t156) := (blk_cell BK157.out 8).trans rfl
                      have hfz50_0 := blk_frozen BK157.out 0
                      have hfz50_1 := blk_frozen BK157.out 1
                      have hfz50_2 := blk_frozen BK157.out 2
                      have hfz50_3 := blk_frozen BK157.out 3
                      have hfz50_4 := blk_frozen BK157.out 4
                      have hfz50_5 := blk_frozen BK157.out 5
                      have hfz50_6 := blk_frozen BK157.out 6
                      have hfz50_7 := blk_frozen BK157.out 7
                      have hfz50_8 := blk_frozen BK157.out 8
                      go_wp2
                      go_meet
                      case rel => exact ⟨_, (true), (by first | rfl | (simp; done) | (simp [*]; done)), H', ⟨by have := HK1.out; first | omega | exact Nat.le_refl _⟩, ⟨by (with_reducible repeat (first | refine blk_drewN ?_ _ | refine blk_drew ?_ | refine blk_alloc ?_ _)); exact BK146.out⟩, ⟨by (with_reducible repeat (first | refine blk_drewN ?_ _ | refine blk_drew ?_ | refine blk_alloc ?_ _)); exact BK157.out⟩, ⟨by (with_reducible repeat (first | refine blk_drewN ?_ _ | refine blk_drew ?_ | refine blk_alloc ?_ _)); exact BK162.out⟩, ⟨by (with_reducible repeat (first | refine blk_drewN ?_ _ | refine blk_drew ?_ | refine blk_alloc ?_ _)); exact BK170.out⟩, ⟨by repeat (first | (with_reducible first | exact HI167.out | apply IsS36.alloc | apply IsS36.drewN | apply IsS36.drew | apply IsS36.set_0 | apply IsS36.set_1 | apply IsS36.set_2 | apply IsS36.set_3 | refine IsS36.far ?_ NB167_146.out _ | refine IsS36.far ?_ NB167_157.out _ | refine IsS36.far ?_ NB167_162.out _ | refine IsS36.far ?_ NB167_170.out _) | exact HI167.out)⟩, ⟨by repeat (first | (with_reducible first | exact HB.out | apply below_alloc | apply pw_below_drewN | apply below_drew1 | refine below_set ?_ (IsS36.ge HI167.out) | refine below_set ?_ GE146.out | refine below_set ?_ GE157.out | refine below_set ?_ GE162.out | refine below_set ?_ GE170.out) | exact HB.out)⟩⟩
                    · rw [if_neg c45] at H
                      have c45b0 : decide (t150 < t172) = false := decide_eq_false c45
                      clear c45
                      replace H := Option.bind_eq_some_iff.mp H
                      obtain ⟨t173, A510, H⟩ := H
                      replace H : (weighbridgelaw09_CellMore.j1 k1 (wrap64 (x8_1 + t171)) t172 l1 (l1.length : Int) x25_1 (decide (t173 < t172)) t148 t149 t150 t151 t152 t153 t154 t155 t156 t158 t159 t160 t161 x168000_1 x168001_1 x168002_1 x168003_1 ((rd_T40 l1 x25_1).f0) ((rd_T40 l1 x25_1).f1)) = some r := H
                      have A51 := Aside0.mk A510
                      clear A510
                      have H' := Aside0.mk H
                      clear H
                      have hnb52 := NB157_146.out
                      have hnc52 := NB146_157.out
                      have hnb53 := NB157_162.out
                      have hnc53 := NB162_157.out
                      have hnb54 := NB157_170.out
                      have hnc54 := NB170_157.out
                      have hnb55 := NB157_167.out
                      have hnc55 := NB167_157.out
                      have hcz56_0 : w43.cell? ⟨gb157, 0, none⟩ = some (.int .i64 t148) := (blk_cell BK157.out 0).trans rfl
                      have hcz56_1 : w43.cell? ⟨gb157, 1, none⟩ = some (.int .i64 t149) := (blk_cell BK157.out 1).trans rfl
                      have hcz56_2 : w43.cell? ⟨gb157, 2, none⟩ = some (.int .i64 t150) := (blk_cell BK157.out 2).trans rfl
                      have hcz56_3 : w43.cell? ⟨gb157, 3, none⟩ = some (.int .i64 t151) := (blk_cell BK157.out 3).trans rfl
                      have hcz56_4 : w43.cell? ⟨gb157, 4, none⟩ = some (.int .i64 t152) := (blk_cell BK157.out 4).trans rfl
                      have hcz56_5 : w43.cell? ⟨gb157, 5, none⟩ = some (.int .i64 t153) := (blk_cell BK157.out 5).trans rfl
                      have hcz56_6 : w43.cell? ⟨gb157, 6, none⟩ = some (.int .i64 t154) := (blk_cell BK157.out 6).trans rfl
                      have hcz56_7 : w43.cell? ⟨gb157, 7, none⟩ = some (.int .i64 t155) := (blk_cell BK157.out 7).trans rfl
                      have hcz56_8 : w43.cell? ⟨gb157, 8, none⟩ = some (.bool t156) := (blk_cell BK157.out 8).trans rfl
                      have hfz56_0 := blk_frozen BK157.out 0
                      have hfz56_1 := blk_frozen BK157.out 1
                      have hfz56_2 := blk_frozen BK157.out 2
                      have hfz56_3 := blk_frozen BK157.out 3
                      have hfz56_4 := blk_frozen BK157.out 4
                      have hfz56_5 := blk_frozen BK157.out 5
                      have hfz56_6 := blk_frozen BK157.out 6
                      have hfz56_7 := blk_frozen BK157.out 7
                      have hfz56_8 := blk_frozen BK157.out 8
                      obtain ⟨HGz57, hgz57⟩ := HI167.out
                      have hcz57_0 := cellS36_0 HGz57
                      have hcz57_1 := cellS36_1 HGz57
                      have hcz57_2 := cellS36_2 HGz57
                      have hcz57_3 := cellS36_3 HGz57
                      have hfz57_0 := blk_frozen HGz57 0
                      have hfz57_1 := blk_frozen HGz57 1
                      have hfz57_2 := blk_frozen HGz57 2
                      have hfz57_3 := blk_frozen HGz57 3
                      clear HGz57 hgz57
                      have hnb58 := NB162_146.out
                      have hnc58 := NB146_162.out
                      have hnb59 := NB162_170.out
                      have hnc59 := NB170_162.out
                      have hnb60 := NB162_167.out
                      have hnc60 := NB167_162.out
                      have hcz61_0 : w43.cell? ⟨gb162, 0, none⟩ = some (.int .i64 t158) := (blk_cell BK162.out 0).trans rfl
                      have hcz61_1 : w43.cell? ⟨gb162, 1, none⟩ = some (.int .i64 t159) := (blk_cell BK162.out 1).trans rfl
                      have hcz61_2 : w43.cell? ⟨gb162, 2, none⟩ = some (.int .i64 t160) := (blk_cell BK162.out 2).trans rfl
                      have hcz61_3 : w43.cell? ⟨gb162, 3, none⟩ = some (.int .i64 t161) := (blk_cell BK162.out 3).trans rfl
                      have hfz61_0 := blk_frozen BK162.out 0
                      have hfz61_1 := blk_frozen BK162.out 1
                      have hfz61_2 := blk_frozen BK162.out 2
                      have hfz61_3 := blk_frozen BK162.out 3
                      go_wp2_with (first | (go_at_call 17; (with_reducible refine (cell_Cell_Room.calls k1 x168000_1 x168001_1 x168002_1 x168003_1 t158 t159 t160 t161 (wrap64 ((wrap64 (x8_1 + t171)) + 3)) t173 _ A51.out).mono ?_); rintro e w62 ⟨rfl, hb⟩; have n0_ := Aside0.mk (blk_below (g := gb146) (o := .cells #[.int .i64 a0_0, .int .i64 a0_1, .int .i64 a0_2] 23 (0, 0)) (by (with_reducible repeat (first | refine blk_drewN ?_ _ | refine blk_drew ?_ | refine blk_alloc ?_ _)); exact BK146.out) hb); have n1_ := Aside0.mk (blk_below (g := gb157) (o := .cells #[.int .i64 t148, .int .i64 t149, .int .i64 t150, .int .i64 t151, .int .i64 t152, .int .i64 t153, .int .i64 t154, .int .i64 t155, .bool t156] 28 (0, 0)) (by (with_reducible repeat (first | refine blk_drewN ?_ _ | refine blk_drew ?_ | refine blk_alloc ?_ _)); exact BK157.out) hb); have n2_ := Aside0.mk (blk_below (g := gb162) (o := .cells #[.int .i64 t158, .int .i64 t159, .int .i64 t160, .int .i64 t161] 31 (0, 0)) (by (with_reducible repeat (first | refine blk_drewN ?_ _ | refine blk_drew ?_ | refine blk_alloc ?_ _)); exact BK162.out) hb); have n3_ := Aside0.mk (IsS36.below (by repeat (first | (with_reducible first | exact HI167.out | apply IsS36.alloc | apply IsS36.drewN | apply IsS36.drew | apply IsS36.set_0 | apply IsS36.set_1 | apply IsS36.set_2 | apply IsS36.set_3 | refine IsS36.far ?_ NB167_146.out _ | refine IsS36.far ?_ NB167_157.out _ | refine IsS36.far ?_ NB167_162.out _ | refine IsS36.far ?_ NB167_170.out _) | exact HI167.out)) hb); have n4_ := Aside0.mk (blk_below (g := gb170) (o := .cells #[.int .i64 ((rd_T40 l1 x25_1).f0), .int .i64 ((rd_T40 l1 x25_1).f1)] 40 (0, 0)) (by (with_reducible repeat (first | refine blk_drewN ?_ _ | refine blk_drew ?_ | refine blk_alloc ?_ _)); exact BK170.out) hb); have n5_ := Aside0.mk (below_step (by repeat (first | (with_reducible first | exact HB.out | apply below_alloc | apply pw_below_drewN | apply below_drew1 | refine below_set ?_ (IsS36.ge HI167.out) | refine below_set ?_ GE146.out | refine below_set ?_ GE157.out | refine below_set ?_ GE162.out | refine below_set ?_ GE170.out) | exact HB.out)) hb); clear BK146; clear BK157; clear BK162; clear HI167; clear BK170; clear HB; have BK146 := n0_; have BK157 := n1_; have BK162 := n2_; have HI167 := n3_; have BK170 := n4_; have HB := n5_; clear n0_ n1_ n2_ n3_ n4_ n5_; (try clear hb); (try clear hb2); (try clear hk); (try clear hi)))
                      go_meet
                      case rel => exact ⟨_, (decide (t173 < t172)), (by first | rfl | (simp; done) | (simp [*]; done)), H', ⟨by have := HK1.out; first | omega | exact Nat.le_refl _⟩, ⟨by (with_reducible repeat (first | refine blk_drewN ?_ _ | refine blk_drew ?_ | refine blk_alloc ?_ _)); exact BK146.out⟩, ⟨by (with_reducible repeat (first | refine blk_drewN ?_ _ | refine blk_drew ?_ | refine blk_alloc ?_ _)); exact BK157.out⟩, ⟨by (with_reducible repeat (first | refine blk_drewN ?_ _ | refine blk_drew ?_ | refine blk_alloc ?_ _)); exact BK162.out⟩, ⟨by (with_reducible repeat (first | refine blk_drewN ?_ _ | refine blk_drew ?_ | refine blk_alloc ?_ _)); exact BK170.out⟩, ⟨by repeat (first | (with_reducible first | exact HI167.out | apply IsS36.alloc | apply IsS36.drewN | apply IsS36.drew | apply IsS36.set_0 | apply IsS36.set_1 | apply IsS36.set_2 | apply IsS36.set_3 | refine IsS36.far ?_ NB167_146.out _ | refine IsS36.far ?_ NB167_157.out _ | refine IsS36.far ?_ NB167_162.out _ | refine IsS36.far ?_ NB167_170.out _) | exact HI167.out)⟩, ⟨by repeat (first | (with_reducible first | exact HB.out | apply below_alloc | apply pw_below_drewN | apply below_drew1 | refine below_set ?_ (IsS36.ge HI167.out) | refine below_set ?_ GE146.out | refine below_set ?_ GE157.out | refine below_set ?_ GE162.out | refine below_set ?_ GE170.out) | exact HB.out)⟩⟩
                case rest =>
                  clear HC31
                  try clear c1
                  try clear p1
                  try clear q1
                  try clear hx1
                  try clear c2
                  try clear p2
                  try clear c3
                  try clear c4
                  try clear c5
                  try clear c5b0
                  try clear c5b1
                  try clear c6
                  try clear p6
                  try clear c11
                  try clear c12
                  try clear c13
                  try clear c15
                  try clear c16
                  try clear p16
                  try clear q16
                  try clear hx16
                  try clear c17
                  try clear c20
                  try clear c21
                  try clear c26
                  try clear c26b0
                  try clear c27
                  try clear c27b0
                  try clear c28
                  try clear c28b0
                  try clear c33
                  try clear c34
                  try clear c35
                  try clear c36
                  try clear c39
                  try clear c40
                  try clear c41
                  try clear c44
                  try clear c44b0
                  try clear c45
                  try clear c45b0
                  try clear c46
                  try clear c47
                  try clear c48
                  try clear c49
                  try clear c52
                  try clear c53
                  try clear c54
                  try clear c55
                  try clear c58
                  try clear c59
                  try clear c60
                  try clear hcz13_0
                  try clear hcz13_1
                  try clear hcz13_2
                  try clear hcz17_0
                  try clear hcz17_1
                  try clear hcz17_2
                  try clear hcz17_3
                  try clear hcz17_4
                  try clear hcz17_5
                  try clear hcz17_6
                  try clear hcz17_7
                  try clear hcz17_8
                  try clear hcz22_0
                  try clear hcz22_1
                  try clear hcz22_2
                  try clear hcz22_3
                  try clear hcz25_0
                  try clear hcz25_1
                  try clear hcz25_2
                  try clear hcz25_3
                  try clear hcz37_0
                  try clear hcz37_1
                  try clear hcz38_0
                  try clear hcz38_1
                  try clear hcz38_2
                  try clear hcz38_3
                  try clear hcz42_0
                  try clear hcz42_1
                  try clear hcz42_2
                  try clear hcz42_3
                  try clear hcz50_0
                  try clear hcz50_1
                  try clear hcz50_2
                  try clear hcz50_3
                  try clear hcz50_4
                  try clear hcz50_5
                  try clear hcz50_6
                  try clear hcz50_7
                  try clear hcz50_8
                  try clear hcz56_0
                  try clear hcz56_1
                  try clear hcz56_2
                  try clear hcz56_3
                  try clear hcz56_4
                  try clear hcz56_5
                  try clear hcz56_6
                  try clear hcz56_7
                  try clear hcz56_8
                  try clear hcz57_0
                  try clear hcz57_1
                  try clear hcz57_2
                  try clear hcz57_3
                  try clear hcz61_0
                  try clear hcz61_1
                  try clear hcz61_2
                  try clear hcz61_3
                  try clear hfz13_0
                  try clear hfz13_1
                  try clear hfz13_2
                  try clear hfz17_0
                  try clear hfz17_1
                  try clear hfz17_2
                  try clear hfz17_3
                  try clear hfz17_4
                  try clear hfz17_5
                  try clear hfz17_6
                  try clear hfz17_7
                  try clear hfz17_8
                  try clear hfz22_0
                  try clear hfz22_1
                  try clear hfz22_2
                  try clear hfz22_3
                  try clear hfz25_0
                  try clear hfz25_1
                  try clear hfz25_2
                  try clear hfz25_3
                  try clear hfz37_0
                  try clear hfz37_1
                  try clear hfz38_0
                  try clear hfz38_1
                  try clear hfz38_2
                  try clear hfz38_3
                  try clear hfz42_0
                  try clear hfz42_1
                  try clear hfz42_2
                  try clear hfz42_3
                  try clear hfz50_0
                  try clear hfz50_1
                  try clear hfz50_2
                  try clear hfz50_3
                  try clear hfz50_4
                  try clear hfz50_5
                  try clear hfz50_6
                  try clear hfz50_7
                  try clear hfz50_8
                  try clear hfz56_0
                  try clear hfz56_1
                  try clear hfz56_2
                  try clear hfz56_3
                  try clear hfz56_4
                  try clear hfz56_5
                  try clear hfz56_6
                  try clear hfz56_7
                  try clear hfz56_8
                  try clear hfz57_0
                  try clear hfz57_1
                  try clear hfz57_2
                  try clear hfz57_3
                  try clear hfz61_0
                  try clear hfz61_1
                  try clear hfz61_2
                  try clear hfz61_3
                  try clear hx169_0
                  try clear hx169_1
                  try clear p169
                  try clear p2
                  try clear q169
                  obtain ⟨kq, x54_30, rfl, HA, HJ30, BK146, BK157, BK162, BK170, HI167, HB⟩ := hcut
                  cases kq with
                  | zero => exact absurd HA.out (by simp [weighbridgelaw09_CellMore.j1])
                  | succ kj30 =>
                    have H := HA.out
                    clear HA
                    simp only [weighbridgelaw09_CellMore.j1] at H
                    by_cases c63 : x54_30 = true
                    · subst c63
                      have H1 : (some false) = some r := by rw [if_pos rfl] at H; exact H
                      clear H
                      have H := H1
                      clear H1
                      exact absurd (Option.some.inj H) (by rw [hr_.out]; decide)
                    · replace c63 := Bool.eq_false_iff.mpr c63
                      subst c63
                      have H1 : (if t150 = 0 then (none) else ((cell_Cell_Take.f kj30 x168000_1 x168001_1 x168002_1 x168003_1 t158 t159 t160 t161 (wrap64 (x8_1 + t171)) (wrap64 ((Int.tmod (Go.bits .and .i64 ((rd_T40 l1 x25_1).f1) 31) t150) + 1))).bind fun bt174 => (if (bt174.1 == (decide ((wrap64 ((Int.tmod (Go.bits .and .i64 ((rd_T40 l1 x25_1).f1) 31) t150) + 1)) ≤ t172))) = true then (if (wrap64 ((Int.tmod (Go.bits .and .i64 ((rd_T40 l1 x25_1).f1) 31) t150) + 1)) ≤ t172 then ((cell_Cell_Room.f kj30 bt174.2.1 bt174.2.2.1 bt174.2.2.2.1 bt174.2.2.2.2 t158 t159 t160 t161 (wrap64 (x8_1 + t171))).bind fun t179 => (if t179 > (wrap64 (t172 - (wrap64 ((Int.tmod (Go.bits .and .i64 ((rd_T40 l1 x25_1).f1) 31) t150) + 1)))) then (some false) else (weighbridgelaw09_CellMore.l0 kj30 (wrap64 (x8_1 + t171)) l1 (l1.length : Int) (wrap64 (x25_1 + 1)) t148 t149 t150 t151 t152 t153 t154 t155 t156 t158 t159 t160 t161 bt174.2.1 bt174.2.2.1 bt174.2.2.2.1 bt174.2.2.2.2))) else (weighbridgelaw09_CellMore.l0 kj30 (wrap64 (x8_1 + t171)) l1 (l1.length : Int) (wrap64 (x25_1 + 1)) t148 t149 t150 t151 t152 t153 t154 t155 t156 t158 t159 t160 t161 bt174.2.1 bt174.2.2.1 bt174.2.2.2.1 bt174.2.2.2.2)) else (some false)))) = some r := by rw [if_neg (show ¬ (false = true) by decide)] at H; exact H
                      clear H
                      have H := H1
                      clear H1
                      by_cases c64 : t150 = 0
                      · rw [if_pos c64] at H
                        exact absurd H (by simp)
                      · rw [if_neg c64] at H
                        have c64b0 : (t150 == 0) = false := beq_eq_false_iff_ne.mpr c64
                        have c64b1 : (t150 != 0) = true := bne_iff_ne.mpr c64
                        replace H := Option.bind_eq_some_iff.mp H
                        obtain ⟨⟨t174, t175, t176, t177, t178⟩, A650, H⟩ := H
                        replace H : (if (t174 == (decide ((wrap64 ((Int.tmod (Go.bits .and .i64 ((rd_T40 l1 x25_1).f1) 31) t150) + 1)) ≤ t172))) = true then (if (wrap64 ((Int.tmod (Go.bits .and .i64 ((rd_T40 l1 x25_1).f1) 31) t150) + 1)) ≤ t172 then ((cell_Cell_Room.f kj30 t175 t176 t177 t178 t158 t159 t160 t161 (wrap64 (x8_1 + t171))).bind fun t179 => (if t179 > (wrap64 (t172 - (wrap64 ((Int.tmod (Go.bits .and .i64 ((rd_T40 l1 x25_1).f1) 31) t150) + 1)))) then (some false) else (weighbridgelaw09_CellMore.l0 kj30 (wrap64 (x8_1 + t171)) l1 (l1.length : Int) (wrap64 (x25_1 + 1)) t148 t149 t150 t151 t152 t153 t154 t155 t156 t158 t159 t160 t161 t175 t176 t177 t178))) else (weighbridgelaw09_CellMore.l0 kj30 (wrap64 (x8_1 + t171)) l1 (l1.length : Int) (wrap64 (x25_1 + 1)) t148 t149 t150 t151 t152 t153 t154 t155 t156 t158 t159 t160 t161 t175 t176 t177 t178)) else (some false)) = some r := H
                        have A65 := Aside0.mk A650
                        clear A650
                        by_cases c66 : (t174 == (decide ((wrap64 ((Int.tmod (Go.bits .and .i64 ((rd_T40 l1 x25_1).f1) 31) t150) + 1)) ≤ t172))) = true
                        · rw [if_pos c66] at H
                          have c66b0 : (t174 == (decide ((wrap64 ((Int.tmod (Go.bits .and .i64 ((rd_T40 l1 x25_1).f1) 31) t150) + 1)) ≤ t172))) = true := c66
                          (try (have c66b1 : decide (t174 = (decide ((wrap64 ((Int.tmod (Go.bits .and .i64 ((rd_T40 l1 x25_1).f1) 31) t150) + 1)) ≤ t172))) = true := by simpa using c66))
                          (try (have c66b2 : (t174 == (decide ((wrap64 ((Int.tmod (Go.bits .and .i64 ((rd_T40 l1 x25_1).f1) 31) t150) + 1)) ≤ t172))) = true := by simpa using c66))
                          clear c66
                          by_cases c67 : (wrap64 ((Int.tmod (Go.bits .and .i64 ((rd_T40 l1 x25_1).f1) 31) t150) + 1)) ≤ t172
                          · rw [if_pos c67] at H
                            have c67b0 : decide ((wrap64 ((Int.tmod (Go.bits .and .i64 ((rd_T40 l1 x25_1).f1) 31) t150) + 1)) ≤ t172) = true := decide_eq_true c67
                            (try (have c67q : t174 = true := by have q_ := c66b0; rw [c67b0] at q_; simpa using q_))
                            clear c67
                            replace H := Option.bind_eq_some_iff.mp H
                            obtain ⟨t179, A680, H⟩ := H
                            replace H : (if t179 > (wrap64 (t172 - (wrap64 ((Int.tmod (Go.bits .and .i64 ((rd_T40 l1 x25_1).f1) 31) t150) + 1)))) then (some false) else (weighbridgelaw09_CellMore.l0 kj30 (wrap64 (x8_1 + t171)) l1 (l1.length : Int) (wrap64 (x25_1 + 1)) t148 t149 t150 t151 t152 t153 t154 t155 t156 t158 t159 t160 t161 t175 t176 t177 t178)) = some r := H
                            have A68 := Aside0.mk A680
                            clear A680
                            by_cases c69 : t179 > (wrap64 (t172 - (wrap64 ((Int.tmod (Go.bits .and .i64 ((rd_T40 l1 x25_1).f1) 31) t150) + 1))))
                            · rw [if_pos c69] at H
                              have c69b0 : decide ((wrap64 (t172 - (wrap64 ((Int.tmod (Go.bits .and .i64 ((rd_T40 l1 x25_1).f1) 31) t150) + 1)))) < t179) = true := decide_eq_true c69
                              clear c69
                              exact absurd (Option.some.inj H) (by rw [hr_.out]; decide)
                            · rw [if_neg c69] at H
                              have c69b0 : decide ((wrap64 (t172 - (wrap64 ((Int.tmod (Go.bits .and .i64 ((rd_T40 l1 x25_1).f1) 31) t150) + 1)))) < t179) = false := decide_eq_false c69
                              clear c69
                              have H' := Aside0.mk H
                              clear H
                              have hnb70 := NB170_146.out
                              have hnc70 := NB146_170.out
                              have hnb71 := NB170_157.out
                              have hnc71 := NB157_170.out
                              have hnb72 := NB170_162.out
                              have hnc72 := NB162_170.out
                              have hnb73 := NB170_167.out
                              have hnc73 := NB167_170.out
                              have hcz74_0 : wc.cell? ⟨gb170, 0, none⟩ = some (.int .i64 ((rd_T40 l1 x25_1).f0)) := (blk_cell BK170.out 0).trans rfl
                              have hcz74_1 : wc.cell? ⟨gb170, 1, none⟩ = some (.int .i64 ((rd_T40 l1 x25_1).f1)) := (blk_cell BK170.out 1).trans rfl
                              have hfz74_0 := blk_frozen BK170.out 0
                              have hfz74_1 := blk_frozen BK170.out 1
                              have hnb75 := NB157_146.out
                              have hnc75 := NB146_157.out
                              have hnb76 := NB157_162.out
                              have hnc76 := NB162_157.out
                              have hnb77 := NB157_167.out
                              have hnc77 := NB167_157.out
                              have hcz78_0 : wc.cell? ⟨gb157, 0, none⟩ = some (.int .i64 t148) := (blk_cell BK157.out 0).trans rfl
                              have hcz78_1 : wc.cell? ⟨gb157, 1, none⟩ = some (.int .i64 t149) := (blk_cell BK157.out 1).trans rfl
                              have hcz78_2 : wc.cell? ⟨gb157, 2, none⟩ = some (.int .i64 t150) := (blk_cell BK157.out 2).trans rfl
                              have hcz78_3 : wc.cell? ⟨gb157, 3, none⟩ = some (.int .i64 t151) := (blk_cell BK157.out 3).trans rfl
                              have hcz78_4 : wc.cell? ⟨gb157, 4, none⟩ = some (.int .i64 t152) := (blk_cell BK157.out 4).trans rfl
                              have hcz78_5 : wc.cell? ⟨gb157, 5, none⟩ = some (.int .i64 t153) := (blk_cell BK157.out 5).trans rfl
                              have hcz78_6 : wc.cell? ⟨gb157, 6, none⟩ = some (.int .i64 t154) := (blk_cell BK157.out 6).trans rfl
                              have hcz78_7 : wc.cell? ⟨gb157, 7, none⟩ = some (.int .i64 t155) := (blk_cell BK157.out 7).trans rfl
                              have hcz78_8 : wc.cell? ⟨gb157, 8, none⟩ = some (.bool t156) := (blk_cell BK157.out 8).trans rfl
                              have hfz78_0 := blk_frozen BK157.out 0
                              have hfz78_1 := blk_frozen BK157.out 1
                              have hfz78_2 := blk_frozen BK157.out 2
                              have hfz78_3 := blk_frozen BK157.out 3
                              have hfz78_4 := blk_frozen BK157.out 4
                              have hfz78_5 := blk_frozen BK157.out 5
                              have hfz78_6 := blk_frozen BK157.out 6
                              have hfz78_7 := blk_frozen BK157.out 7
                              have hfz78_8 := blk_frozen BK157.out 8
                              have hnb79 := NB162_146.out
                              have hnc79 := NB146_162.out
                              have hnb80 := NB162_167.out
                              have hnc80 := NB167_162.out
                              have hcz81_0 : wc.cell? ⟨gb162, 0, none⟩ = some (.int .i64 t158) := (blk_cell BK162.out 0).trans rfl
                              have hcz81_1 : wc.cell? ⟨gb162, 1, none⟩ = some (.int .i64 t159) := (blk_cell BK162.out 1).trans rfl
                              have hcz81_2 : wc.cell? ⟨gb162, 2, none⟩ = some (.int .i64 t160) := (blk_cell BK162.out 2).trans rfl
                              have hcz81_3 : wc.cell? ⟨gb162, 3, none⟩ = some (.int .i64 t161) := (blk_cell BK162.out 3).trans rfl
                              have hfz81_0 := blk_frozen BK162.out 0
                              have hfz81_1 := blk_frozen BK162.out 1
                              have hfz81_2 := blk_frozen BK162.out 2
                              have hfz81_3 := blk_frozen BK162.out 3
                              go_wp2_with (first | ((with_reducible refine gate_callee (f := 21) rfl ?_); refine goesL_ (some 65) rfl rfl Try.func21 (by kernel_rfl) rfl #[.pointer (some ⟨gb167, 0, none⟩), .agg #[.int .i64 t158, .int .i64 t159, .int .i64 t160, .int .i64 t161], .int .i64 (wrap64 (x8_1 + t171)), .int .i64 (wrap64 ((Int.tmod (Go.bits .and .i64 ((rd_T40 l1 x25_1).f1) 31) t150) + 1))] rfl (by (try simp only [List.map_toArray, List.map_cons, List.map_nil]); first | done | rfl | (simp only [List.length_drop, List.length_take]; rfl)) ?_; (with_reducible refine (cell_Cell_Take.calls kj30 gb167 x168000_1 x168001_1 x168002_1 x168003_1 t158 t159 t160 t161 (wrap64 (x8_1 + t171)) (wrap64 ((Int.tmod (Go.bits .and .i64 ((rd_T40 l1 x25_1).f1) 31) t150) + 1)) t174 t175 t176 t177 t178 w _ ?side1 ?side2 A65.out).mono ?_); (case side1 => repeat (first | (with_reducible first | exact HI167.out | apply IsS36.alloc | apply IsS36.drewN | apply IsS36.drew | apply IsS36.set_0 | apply IsS36.set_1 | apply IsS36.set_2 | apply IsS36.set_3 | refine IsS36.far ?_ NB167_146.out _ | refine IsS36.far ?_ NB167_157.out _ | refine IsS36.far ?_ NB167_162.out _ | refine IsS36.far ?_ NB167_170.out _) | exact HI167.out)); (case side2 => repeat (first | (with_reducible first | exact HB.out | apply below_alloc | apply pw_below_drewN | apply below_drew1 | refine below_set ?_ (IsS36.ge HI167.out) | refine below_set ?_ GE146.out | refine below_set ?_ GE157.out | refine below_set ?_ GE162.out | refine below_set ?_ GE170.out) | exact HB.out)); rintro e w82 ⟨rfl, hi, hb, hk⟩; refine ⟨_, rfl, ?_⟩; have n0_ := Aside0.mk (KeepBut.blk hk (g' := gb146) (o := .cells #[.int .i64 a0_0, .int .i64 a0_1, .int .i64 a0_2] 23 (0, 0)) (by (with_reducible repeat (first | refine blk_drewN ?_ _ | refine blk_drew ?_ | refine blk_alloc ?_ _)); exact BK146.out) NB146_167.out (by simp)); have n1_ := Aside0.mk (KeepBut.blk hk (g' := gb157) (o := .cells #[.int .i64 t148, .int .i64 t149, .int .i64 t150, .int .i64 t151, .int .i64 t152, .int .i64 t153, .int .i64 t154, .int .i64 t155, .bool t156] 28 (0, 0)) (by (with_reducible repeat (first | refine blk_drewN ?_ _ | refine blk_drew ?_ | refine blk_alloc ?_ _)); exact BK157.out) NB157_167.out (by simp)); have n2_ := Aside0.mk (KeepBut.blk hk (g' := gb162) (o := .cells #[.int .i64 t158, .int .i64 t159, .int .i64 t160, .int .i64 t161] 31 (0, 0)) (by (with_reducible repeat (first | refine blk_drewN ?_ _ | refine blk_drew ?_ | refine blk_alloc ?_ _)); exact BK162.out) NB162_167.out (by simp)); have n3_ := Aside0.mk (KeepBut.blk hk (g' := gb170) (o := .cells #[.int .i64 ((rd_T40 l1 x25_1).f0), .int .i64 ((rd_T40 l1 x25_1).f1)] 40 (0, 0)) (by (with_reducible repeat (first | refine blk_drewN ?_ _ | refine blk_drew ?_ | refine blk_alloc ?_ _)); exact BK170.out) NB170_167.out (by simp)); have n4_ := Aside0.mk (hb); have n5_ := Aside0.mk (hi); clear BK146; clear BK157; clear BK162; clear BK170; clear HB; clear HI167; have BK146 := n0_; have BK157 := n1_; have BK162 := n2_; have BK170 := n3_; have HB := n4_; have HI167 := n5_; clear n0_ n1_ n2_ n3_ n4_ n5_; (try clear hb); (try clear hb2); (try clear hk); (try clear hi); obtain ⟨HGz83, hgz83⟩ := HI167.out; have hcz83_0 := cellS36_0 HGz83; have hcz83_1 := cellS36_1 HGz83; have hcz83_2 := cellS36_2 HGz83; have hcz83_3 := cellS36_3 HGz83; have hfz83_0 := blk_frozen HGz83 0; have hfz83_1 := blk_frozen HGz83 1; have hfz83_2 := blk_frozen HGz83 2; have hfz83_3 := blk_frozen HGz83 3; clear HGz83 hgz83; have hcz84_0 : w82.cell? ⟨gb162, 0, none⟩ = some (.int .i64 t158) := (blk_cell BK162.out 0).trans rfl; have hcz84_1 : w82.cell? ⟨gb162, 1, none⟩ = some (.int .i64 t159) := (blk_cell BK162.out 1).trans rfl; have hcz84_2 : w82.cell? ⟨gb162, 2, none⟩ = some (.int .i64 t160) := (blk_cell BK162.out 2).trans rfl; have hcz84_3 : w82.cell? ⟨gb162, 3, none⟩ = some (.int .i64 t161) := (blk_cell BK162.out 3).trans rfl; have hfz84_0 := blk_frozen BK162.out 0; have hfz84_1 := blk_frozen BK162.out 1; have hfz84_2 := blk_frozen BK162.out 2; have hfz84_3 := blk_frozen BK162.out 3) | (go_at_call 17; (with_reducible refine (cell_Cell_Room.calls kj30 t175 t176 t177 t178 t158 t159 t160 t161 (wrap64 (x8_1 + t171)) t179 _ A68.out).mono ?_); rintro e w85 ⟨rfl, hb⟩; have n0_ := Aside0.mk (blk_below (g := gb146) (o := .cells #[.int .i64 a0_0, .int .i64 a0_1, .int .i64 a0_2] 23 (0, 0)) (by (with_reducible repeat (first | refine blk_drewN ?_ _ | refine blk_drew ?_ | refine blk_alloc ?_ _)); exact BK146.out) hb); have n1_ := Aside0.mk (blk_below (g := gb157) (o := .cells #[.int .i64 t148, .int .i64 t149, .int .i64 t150, .int .i64 t151, .int .i64 t152, .int .i64 t153, .int .i64 t154, .int .i64 t155, .bool t156] 28 (0, 0)) (by (with_reducible repeat (first | refine blk_drewN ?_ _ | refine blk_drew ?_ | refine blk_alloc ?_ _)); exact BK157.out) hb); have n2_ := Aside0.mk (blk_below (g := gb162) (o := .cells #[.int .i64 t158, .int .i64 t159, .int .i64 t160, .int .i64 t161] 31 (0, 0)) (by (with_reducible repeat (first | refine blk_drewN ?_ _ | refine blk_drew ?_ | refine blk_alloc ?_ _)); exact BK162.out) hb); have n3_ := Aside0.mk (blk_below (g := gb170) (o := .cells #[.int .i64 ((rd_T40 l1 x25_1).f0), .int .i64 ((rd_T40 l1 x25_1).f1)] 40 (0, 0)) (by (with_reducible repeat (first | refine blk_drewN ?_ _ | refine blk_drew ?_ | refine blk_alloc ?_ _)); exact BK170.out) hb); have n4_ := Aside0.mk (IsS36.below (by repeat (first | (with_reducible first | exact HI167.out | apply IsS36.alloc | apply IsS36.drewN | apply IsS36.drew | apply IsS36.set_0 | apply IsS36.set_1 | apply IsS36.set_2 | apply IsS36.set_3 | refine IsS36.far ?_ NB167_146.out _ | refine IsS36.far ?_ NB167_157.out _ | refine IsS36.far ?_ NB167_162.out _ | refine IsS36.far ?_ NB167_170.out _) | exact HI167.out)) hb); have n5_ := Aside0.mk (below_step (by repeat (first | (with_reducible first | exact HB.out | apply below_alloc | apply pw_below_drewN | apply below_drew1 | refine below_set ?_ (IsS36.ge HI167.out) | refine below_set ?_ GE146.out | refine below_set ?_ GE157.out | refine below_set ?_ GE162.out | refine below_set ?_ GE170.out) | exact HB.out)) hb); clear BK146; clear BK157; clear BK162; clear BK170; clear HI167; clear HB; have BK146 := n0_; have BK157 := n1_; have BK162 := n2_; have BK170 := n3_; have HI167 := n4_; have HB := n5_; clear n0_ n1_ n2_ n3_ n4_ n5_; (try clear hb); (try clear hb2); (try clear hk); (try clear hi)))
                              go_roundg kj30
                              case measure => have := HK1.out; have := HJ30.out; omega
                              case rel => exact ⟨((wrap64 (x8_1 + t171))), (wrap64 (x25_1 + 1)), (t175), (t176), (t177), (t178), (by first | rfl | (simp; done) | (simp [*]; done)), (by first | rfl | (simp; done) | (simp [*]; done)), H', ⟨by have := HK1.out; have := HJ30.out; omega⟩, ⟨by (with_reducible repeat (first | refine blk_drewN ?_ _ | refine blk_drew ?_ | refine blk_alloc ?_ _)); exact BK146.out⟩, ⟨by (with_reducible repeat (first | refine blk_drewN ?_ _ | refine blk_drew ?_ | refine blk_alloc ?_ _)); exact BK157.out⟩, ⟨by (with_reducible repeat (first | refine blk_drewN ?_ _ | refine blk_drew ?_ | refine blk_alloc ?_ _)); exact BK162.out⟩, ⟨by repeat (first | (with_reducible first | exact HI167.out | apply IsS36.alloc | apply IsS36.drewN | apply IsS36.drew | apply IsS36.set_0 | apply IsS36.set_1 | apply IsS36.set_2 | apply IsS36.set_3 | refine IsS36.far ?_ NB167_146.out _ | refine IsS36.far ?_ NB167_157.out _ | refine IsS36.far ?_ NB167_162.out _ | refine IsS36.far ?_ NB167_170.out _) | exact HI167.out)⟩, ⟨by repeat (first | (with_reducible first | exact HB.out | apply below_alloc | apply pw_below_drewN | apply below_drew1 | refine below_set ?_ (IsS36.ge HI167.out) | refine below_set ?_ GE146.out | refine below_set ?_ GE157.out | refine below_set ?_ GE162.out | refine below_set ?_ GE170.out) | exact HB.out)⟩⟩
                          · rw [if_neg c67] at H
                            have c67b0 : decide ((wrap64 ((Int.tmod (Go.bits .and .i64 ((rd_T40 l1 x25_1).f1) 31) t150) + 1)) ≤ t172) = false := decide_eq_false c67
                            (try (have c67q : t174 = false := by have q_ := c66b0; rw [c67b0] at q_; simpa using q_))
                            clear c67
                            have H' := Aside0.mk H
                            clear H
                            have hnb86 := NB170_146.out
                            have hnc86 := NB146_170.out
                            have hnb87 := NB170_157.out
                            have hnc87 := NB157_170.out
                            have hnb88 := NB170_162.out
                            have hnc88 := NB162_170.out
                            have hnb89 := NB170_167.out
                            have hnc89 := NB167_170.out
                            have hcz90_0 : wc.cell? ⟨gb170, 0, none⟩ = some (.int .i64 ((rd_T40 l1 x25_1).f0)) := (blk_cell BK170.out 0).trans rfl
                            have hcz90_1 : wc.cell? ⟨gb170, 1, none⟩ = some (.int .i64 ((rd_T40 l1 x25_1).f1)) := (blk_cell BK170.out 1).trans rfl
                            have hfz90_0 := blk_frozen BK170.out 0
                            have hfz90_1 := blk_frozen BK170.out 1
                            have hnb91 := NB157_146.out
                            have hnc91 := NB146_157.out
                            have hnb92 := NB157_162.out
                            have hnc92 := NB162_157.out
                            have hnb93 := NB157_167.out
                            have hnc93 := NB167_157.out
                            have hcz94_0 : wc.cell? ⟨gb157, 0, none⟩ = some (.int .i64 t148) := (blk_cell BK157.out 0).trans rfl
                            have hcz94_1 : wc.cell? ⟨gb157, 1, none⟩ = some (.int .i64 t149) := (blk_cell BK157.out 1).trans rfl
                            have hcz94_2 : wc.cell? ⟨gb157, 2, none⟩ = some (.int .i64 t150) := (blk_cell BK157.out 2).trans rfl
                            have hcz94_3 : wc.cell? ⟨gb157, 3, none⟩ = some (.int .i64 t151) := (blk_cell BK157.out 3).trans rfl
                            have hcz94_4 : wc.cell? ⟨gb157, 4, none⟩ = some (.int .i64 t152) := (blk_cell BK157.out 4).trans rfl
                            have hcz94_5 : wc.cell? ⟨gb157, 5, none⟩ = some (.int .i64 t153) := (blk_cell BK157.out 5).trans rfl
                            have hcz94_6 : wc.cell? ⟨gb157, 6, none⟩ = some (.int .i64 t154) := (blk_cell BK157.out 6).trans rfl
                            have hcz94_7 : wc.cell? ⟨gb157, 7, none⟩ = some (.int .i64 t155) := (blk_cell BK157.out 7).trans rfl
                            have hcz94_8 : wc.cell? ⟨gb157, 8, none⟩ = some (.bool t156) := (blk_cell BK157.out 8).trans rfl
                            have hfz94_0 := blk_frozen BK157.out 0
                            have hfz94_1 := blk_frozen BK157.out 1
                            have hfz94_2 := blk_frozen BK157.out 2
                            have hfz94_3 := blk_frozen BK157.out 3
                            have hfz94_4 := blk_frozen BK157.out 4
                            have hfz94_5 := blk_frozen BK157.out 5
                            have hfz94_6 := blk_frozen BK157.out 6
                            have hfz94_7 := blk_frozen BK157.out 7
                            have hfz94_8 := blk_frozen BK157.out 8
                            have hnb95 := NB162_146.out
                            have hnc95 := NB146_162.out
                            have hnb96 := NB162_167.out
                            have hnc96 := NB167_162.out
                            have hcz97_0 : wc.cell? ⟨gb162, 0, none⟩ = some (.int .i64 t158) := (blk_cell BK162.out 0).trans rfl
                            have hcz97_1 : wc.cell? ⟨gb162, 1, none⟩ = some (.int .i64 t159) := (blk_cell BK162.out 1).trans rfl
                            have hcz97_2 : wc.cell? ⟨gb162, 2, none⟩ = some (.int .i64 t160) := (blk_cell BK162.out 2).trans rfl
                            have hcz97_3 : wc.cell? ⟨gb162, 3, none⟩ = some (.int .i64 t161) := (blk_cell BK162.out 3).trans rfl
                            have hfz97_0 := blk_frozen BK162.out 0
                            have hfz97_1 := blk_frozen BK162.out 1
                            have hfz97_2 := blk_frozen BK162.out 2
                            have hfz97_3 := blk_frozen BK162.out 3
                            go_wp2_with (first | ((with_reducible refine gate_callee (f := 21) rfl ?_); refine goesL_ (some 65) rfl rfl Try.func21 (by kernel_rfl) rfl #[.pointer (some ⟨gb167, 0, none⟩), .agg #[.int .i64 t158, .int .i64 t159, .int .i64 t160, .int .i64 t161], .int .i64 (wrap64 (x8_1 + t171)), .int .i64 (wrap64 ((Int.tmod (Go.bits .and .i64 ((rd_T40 l1 x25_1).f1) 31) t150) + 1))] rfl (by (try simp only [List.map_toArray, List.map_cons, List.map_nil]); first | done | rfl | (simp only [List.length_drop, List.length_take]; rfl)) ?_; (with_reducible refine (cell_Cell_Take.calls kj30 gb167 x168000_1 x168001_1 x168002_1 x168003_1 t158 t159 t160 t161 (wrap64 (x8_1 + t171)) (wrap64 ((Int.tmod (Go.bits .and .i64 ((rd_T40 l1 x25_1).f1) 31) t150) + 1)) t174 t175 t176 t177 t178 w _ ?side1 ?side2 A65.out).mono ?_); (case side1 => repeat (first | (with_reducible first | exact HI167.out | apply IsS36.alloc | apply IsS36.drewN | apply IsS36.drew | apply IsS36.set_0 | apply IsS36.set_1 | apply IsS36.set_2 | apply IsS36.set_3 | refine IsS36.far ?_ NB167_146.out _ | refine IsS36.far ?_ NB167_157.out _ | refine IsS36.far ?_ NB167_162.out _ | refine IsS36.far ?_ NB167_170.out _) | exact HI167.out)); (case side2 => repeat (first | (with_reducible first | exact HB.out | apply below_alloc | apply pw_below_drewN | apply below_drew1 | refine below_set ?_ (IsS36.ge HI167.out) | refine below_set ?_ GE146.out | refine below_set ?_ GE157.out | refine below_set ?_ GE162.out | refine below_set ?_ GE170.out) | exact HB.out)); rintro e w98 ⟨rfl, hi, hb, hk⟩; refine ⟨_, rfl, ?_⟩; have n0_ := Aside0.mk (KeepBut.blk hk (g' := gb146) (o := .cells #[.int .i64 a0_0, .int .i64 a0_1, .int .i64 a0_2] 23 (0, 0)) (by (with_reducible repeat (first | refine blk_drewN ?_ _ | refine blk_drew ?_ | refine blk_alloc ?_ _)); exact BK146.out) NB146_167.out (by simp)); have n1_ := Aside0.mk (KeepBut.blk hk (g' := gb157) (o := .cells #[.int .i64 t148, .int .i64 t149, .int .i64 t150, .int .i64 t151, .int .i64 t152, .int .i64 t153, .int .i64 t154, .int .i64 t155, .bool t156] 28 (0, 0)) (by (with_reducible repeat (first | refine blk_drewN ?_ _ | refine blk_drew ?_ | refine blk_alloc ?_ _)); exact BK157.out) NB157_167.out (by simp)); have n2_ := Aside0.mk (KeepBut.blk hk (g' := gb162) (o := .cells #[.int .i64 t158, .int .i64 t159, .int .i64 t160, .int .i64 t161] 31 (0, 0)) (by (with_reducible repeat (first | refine blk_drewN ?_ _ | refine blk_drew ?_ | refine blk_alloc ?_ _)); exact BK162.out) NB162_167.out (by simp)); have n3_ := Aside0.mk (KeepBut.blk hk (g' := gb170) (o := .cells #[.int .i64 ((rd_T40 l1 x25_1).f0), .int .i64 ((rd_T40 l1 x25_1).f1)] 40 (0, 0)) (by (with_reducible repeat (first | refine blk_drewN ?_ _ | refine blk_drew ?_ | refine blk_alloc ?_ _)); exact BK170.out) NB170_167.out (by simp)); have n4_ := Aside0.mk (hb); have n5_ := Aside0.mk (hi); clear BK146; clear BK157; clear BK162; clear BK170; clear HB; clear HI167; have BK146 := n0_; have BK157 := n1_; have BK162 := n2_; have BK170 := n3_; have HB := n4_; have HI167 := n5_; clear n0_ n1_ n2_ n3_ n4_ n5_; (try clear hb); (try clear hb2); (try clear hk); (try clear hi)))
                            go_roundg kj30
                            case measure => have := HK1.out; have := HJ30.out; omega
                            case rel => exact ⟨((wrap64 (x8_1 + t171))), (wrap64 (x25_1 + 1)), (t175), (t176), (t177), (t178), (by first | rfl | (simp; done) | (simp [*]; done)), (by first | rfl | (simp; done) | (simp [*]; done)), H', ⟨by have := HK1.out; have := HJ30.out; omega⟩, ⟨by (with_reducible repeat (first | refine blk_drewN ?_ _ | refine blk_drew ?_ | refine blk_alloc ?_ _)); exact BK146.out⟩, ⟨by (with_reducible repeat (first | refine blk_drewN ?_ _ | refine blk_drew ?_ | refine blk_alloc ?_ _)); exact BK157.out⟩, ⟨by (with_reducible repeat (first | refine blk_drewN ?_ _ | refine blk_drew ?_ | refine blk_alloc ?_ _)); exact BK162.out⟩, ⟨by repeat (first | (with_reducible first | exact HI167.out | apply IsS36.alloc | apply IsS36.drewN | apply IsS36.drew | apply IsS36.set_0 | apply IsS36.set_1 | apply IsS36.set_2 | apply IsS36.set_3 | refine IsS36.far ?_ NB167_146.out _ | refine IsS36.far ?_ NB167_157.out _ | refine IsS36.far ?_ NB167_162.out _ | refine IsS36.far ?_ NB167_170.out _) | exact HI167.out)⟩, ⟨by repeat (first | (with_reducible first | exact HB.out | apply below_alloc | apply pw_below_drewN | apply below_drew1 | refine below_set ?_ (IsS36.ge HI167.out) | refine below_set ?_ GE146.out | refine below_set ?_ GE157.out | refine below_set ?_ GE162.out | refine below_set ?_ GE170.out) | exact HB.out)⟩⟩
                        · rw [if_neg c66] at H
                          have c66b0 : (t174 == (decide ((wrap64 ((Int.tmod (Go.bits .and .i64 ((rd_T40 l1 x25_1).f1) 31) t150) + 1)) ≤ t172))) = false := by simpa using c66
                          (try (have c66b1 : decide (t174 = (decide ((wrap64 ((Int.tmod (Go.bits .and .i64 ((rd_T40 l1 x25_1).f1) 31) t150) + 1)) ≤ t172))) = false := by simpa using c66))
                          (try (have c66b2 : (t174 == (decide ((wrap64 ((Int.tmod (Go.bits .and .i64 ((rd_T40 l1 x25_1).f1) 31) t150) + 1)) ≤ t172))) = false := by simpa using c66))
                          (try (have c66b3 : ¬ (t174 = (decide ((wrap64 ((Int.tmod (Go.bits .and .i64 ((rd_T40 l1 x25_1).f1) 31) t150) + 1)) ≤ t172))) := by simpa using c66))
                          clear c66
                          exact absurd (Option.some.inj H) (by rw [hr_.out]; decide)
              · rw [if_neg c28] at H
                exact absurd H (by simp)
            · rw [if_neg c27] at H
              exact absurd H (by simp)
          · rw [if_neg c26] at H
            have c26b0 : decide (x25_1 < (l1.length : Int)) = false := decide_eq_false c26
            clear c26
            replace H := Option.bind_eq_some_iff.mp H
            obtain ⟨t168, A990, H⟩ := H
            replace H : (some (t168 == t150)) = some r := H
            have A99 := Aside0.mk A990
            clear A990
            obtain rfl := Option.some.inj H
            try go_wp2
            have n0_ := Aside0.mk (blk_drew BK146.out)
            have n1_ := Aside0.mk (blk_drew BK157.out)
            have n2_ := Aside0.mk (blk_drew BK162.out)
            have n3_ := Aside0.mk (IsS36.drew HI167.out)
            have n4_ := Aside0.mk (below_drew1 HB.out)
            clear BK146
            clear BK157
            clear BK162
            clear HI167
            clear HB
            have BK146 := n0_
            have BK157 := n1_
            have BK162 := n2_
            have HI167 := n3_
            have HB := n4_
            clear n0_ n1_ n2_ n3_ n4_
            refine start_ (n := 18) (S := fun w' => w'.cell? ⟨gb167, 0, none⟩ = some (.int .i64 x168000_1) ∧ w'.cell? ⟨gb167, 1, none⟩ = some (.int .i64 x168001_1) ∧ w'.cell? ⟨gb167, 2, none⟩ = some (.int .i64 x168002_1) ∧ w'.cell? ⟨gb167, 3, none⟩ = some (.int .i64 x168003_1) ∧ w'.cell? ⟨gb162, 0, none⟩ = some (.int .i64 t158) ∧ w'.cell? ⟨gb162, 1, none⟩ = some (.int .i64 t159) ∧ w'.cell? ⟨gb162, 2, none⟩ = some (.int .i64 t160) ∧ w'.cell? ⟨gb162, 3, none⟩ = some (.int .i64 t161) ∧ w'.cell? ⟨gb157, 0, none⟩ = some (.int .i64 t148) ∧ w'.cell? ⟨gb157, 1, none⟩ = some (.int .i64 t149) ∧ w'.cell? ⟨gb157, 2, none⟩ = some (.int .i64 t150) ∧ w'.cell? ⟨gb157, 3, none⟩ = some (.int .i64 t151) ∧ w'.cell? ⟨gb157, 4, none⟩ = some (.int .i64 t152) ∧ w'.cell? ⟨gb157, 5, none⟩ = some (.int .i64 t153) ∧ w'.cell? ⟨gb157, 6, none⟩ = some (.int .i64 t154) ∧ w'.cell? ⟨gb157, 7, none⟩ = some (.int .i64 t155) ∧ w'.cell? ⟨gb157, 8, none⟩ = some (.bool t156)) (ds := []) #[false, false, false, false, false, false, false, false, false, false, false, false, false, false, false, false, false, false] (by kernel_rfl) rfl rfl ⟨(blk_cell (Aside0.mk HI167.out.1).out 0).trans rfl, (blk_cell (Aside0.mk HI167.out.1).out 1).trans rfl, (blk_cell (Aside0.mk HI167.out.1).out 2).trans rfl, (blk_cell (Aside0.mk HI167.out.1).out 3).trans rfl, (blk_cell BK162.out 0).trans rfl, (blk_cell BK162.out 1).trans rfl, (blk_cell BK162.out 2).trans rfl, (blk_cell BK162.out 3).trans rfl, (blk_cell BK157.out 0).trans rfl, (blk_cell BK157.out 1).trans rfl, (blk_cell BK157.out 2).trans rfl, (blk_cell BK157.out 3).trans rfl, (blk_cell BK157.out 4).trans rfl, (blk_cell BK157.out 5).trans rfl, (blk_cell BK157.out 6).trans rfl, (blk_cell BK157.out 7).trans rfl, (blk_cell BK157.out 8).trans rfl⟩ (fun hHeld => ?_); refine with_tabW weighbridgelaw09_CellMore.tab20 weighbridgelaw09_CellMore.bits20 (fun HT_ HW_ => ?_)
            generalize wr.drew = w100 at BK146 BK157 BK162 HI167 HB hHeld ⊢
            refine pure_ (i := 2) (N := some 88) (v := ?_) (a' := ?_) #[false, false, true, false, false, false, false, false, false, false, false, false, false, false, false, false, false, false] rfl rfl (any_of HT_.out (by kernel_rfl)) (fun _ _ _ h => h) (Or.inl ⟨by rfl, ?_⟩) ?_ ?_
            rotate_left
            · intro w'
              go_simp
              with_reducible rfl
            rotate_left
            · simp only [Act.put, List.setIfInBounds_toArray, List.set_cons_zero, List.set_cons_succ, i64_w, i32_w]
              rfl
            refine pure_ (i := 3) (N := some 89) (v := ?_) (a' := ?_) #[false, false, true, true, false, false, false, false, false, false, false, false, false, false, false, false, false, false] rfl rfl (any_of HT_.out (by kernel_rfl)) (fun _ _ _ h => h) (Or.inl ⟨by rfl, ?_⟩) ?_ ?_
            rotate_left
            · intro w'
              go_simp
              with_reducible rfl
            rotate_left
            · simp only [Act.put, List.setIfInBounds_toArray, List.set_cons_zero, List.set_cons_succ, i64_w, i32_w]
              rfl
            refine pure_ (i := 7) (N := some 93) (v := ?_) (a' := ?_) #[false, false, true, true, false, false, false, true, false, false, false, false, false, false, false, false, false, false] rfl rfl (any_of HT_.out (by kernel_rfl)) (fun _ _ _ h => h) (Or.inl ⟨by rfl, ?_⟩) ?_ ?_
            rotate_left
            · intro w'
              go_simp
              with_reducible rfl
            rotate_left
            · simp only [Act.put, List.setIfInBounds_toArray, List.set_cons_zero, List.set_cons_succ, i64_w, i32_w]
              rfl
            refine pure_ (i := 9) (N := some 95) (v := ?_) (a' := ?_) #[false, false, true, true, false, false, false, true, false, true, false, false, false, false, false, false, false, false] rfl rfl (any_of HT_.out (by kernel_rfl)) (fun _ _ _ h => h) (Or.inl ⟨by rfl, ?_⟩) ?_ ?_
            rotate_left
            · intro w'
              go_simp
              with_reducible rfl
            rotate_left
            · simp only [Act.put, List.setIfInBounds_toArray, List.set_cons_zero, List.set_cons_succ, i64_w, i32_w]
              rfl
            refine pure_ (i := 14) (N := some 100) (v := ?_) (a' := ?_) #[false, false, true, true, false, false, false, true, false, true, false, false, false, false, true, false, false, false] rfl rfl (any_of HT_.out (by kernel_rfl)) (fun _ _ _ h => h) (Or.inl ⟨by rfl, ?_⟩) ?_ ?_
            rotate_left
            · intro w'
              go_simp
              with_reducible rfl
            rotate_left
            · simp only [Act.put, List.setIfInBounds_toArray, List.set_cons_zero, List.set_cons_succ, i64_w, i32_w]
              rfl
            refine take_ (i := 0) (N := some 86) (v := ?_) (a' := ?_) #[true, false, true, true, false, false, false, true, false, true, false, false, false, false, true, false, false, false] rfl rfl (take_ofW HT_.out HW_.out (by kernel_rfl)) (fun _ _ _ h => h) (Or.inl ⟨by rfl, ?_⟩) hHeld ?_ ?_
            rotate_left
            · rintro w' ⟨s0, s1, s2, s3, s4, s5, s6, s7, s8, s9, s10, s11, s12, s13, s14, s15, s16⟩
              go_simp
              with_reducible rfl
            rotate_left
            · simp only [Act.put, List.setIfInBounds_toArray, List.set_cons_zero, List.set_cons_succ, i64_w, i32_w]
              rfl
            refine take_ (i := 1) (N := some 87) (v := ?_) (a' := ?_) #[true, true, true, true, false, false, false, true, false, true, false, false, false, false, true, false, false, false] rfl rfl (take_ofW HT_.out HW_.out (by kernel_rfl)) (fun _ _ _ h => h) (Or.inl ⟨by rfl, ?_⟩) hHeld ?_ ?_
            rotate_left
            · rintro w' ⟨s0, s1, s2, s3, s4, s5, s6, s7, s8, s9, s10, s11, s12, s13, s14, s15, s16⟩
              go_simp
              with_reducible rfl
            rotate_left
            · simp only [Act.put, List.setIfInBounds_toArray, List.set_cons_zero, List.set_cons_succ, i64_w, i32_w]
              rfl
            refine take_ (i := 4) (N := some 90) (v := ?_) (a' := ?_) #[true, true, true, true, true, false, false, true, false, true, false, false, false, false, true, false, false, false] rfl rfl (take_ofW HT_.out HW_.out (by kernel_rfl)) (fun _ _ _ h => h) (Or.inl ⟨by rfl, ?_⟩) hHeld ?_ ?_
            rotate_left
            · rintro w' ⟨s0, s1, s2, s3, s4, s5, s6, s7, s8, s9, s10, s11, s12, s13, s14, s15, s16⟩
              go_simp
              with_reducible rfl
            rotate_left
            · simp only [Act.put, List.setIfInBounds_toArray, List.set_cons_zero, List.set_cons_succ, i64_w, i32_w]
              rfl
            refine pure_ (i := 5) (N := some 91) (v := ?_) (a' := ?_) #[true, true, true, true, true, true, false, true, false, true, false, false, false, false, true, false, false, false] rfl rfl (any_of HT_.out (by kernel_rfl)) (fun _ _ _ h => h) (Or.inl ⟨by rfl, ?_⟩) ?_ ?_
            rotate_left
            · intro w'
              go_simp
              with_reducible rfl
            rotate_left
            · simp only [Act.put, List.setIfInBounds_toArray, List.set_cons_zero, List.set_cons_succ, i64_w, i32_w]
              rfl
            refine pure_ (i := 6) (N := some 92) (v := ?_) (a' := ?_) #[true, true, true, true, true, true, true, true, false, true, false, false, false, false, true, false, false, false] rfl rfl (any_of HT_.out (by kernel_rfl)) (fun _ _ _ h => h) (Or.inl ⟨by rfl, ?_⟩) ?_ ?_
            rotate_left
            · intro w'
              go_simp
              with_reducible rfl
            rotate_left
            · simp only [Act.put, List.setIfInBounds_toArray, List.set_cons_zero, List.set_cons_succ, i64_w, i32_w]
              rfl
            refine take_ (i := 8) (N := some 94) (v := ?_) (a' := ?_) #[true, true, true, true, true, true, true, true, true, true, false, false, false, false, true, false, false, false] rfl rfl (take_ofW HT_.out HW_.out (by kernel_rfl)) (fun _ _ _ h => h) (Or.inl ⟨by rfl, ?_⟩) hHeld ?_ ?_
            rotate_left
            · rintro w' ⟨s0, s1, s2, s3, s4, s5, s6, s7, s8, s9, s10, s11, s12, s13, s14, s15, s16⟩
              go_simp
              with_reducible rfl
            rotate_left
            · simp only [Act.put, List.setIfInBounds_toArray, List.set_cons_zero, List.set_cons_succ, i64_w, i32_w]
              rfl
            refine take_ (i := 10) (N := some 96) (v := ?_) (a' := ?_) #[true, true, true, true, true, true, true, true, true, true, true, false, false, false, true, false, false, false] rfl rfl (take_ofW HT_.out HW_.out (by kernel_rfl)) (fun _ _ _ h => h) (Or.inl ⟨by rfl, ?_⟩) hHeld ?_ ?_
            rotate_left
            · rintro w' ⟨s0, s1, s2, s3, s4, s5, s6, s7, s8, s9, s10, s11, s12, s13, s14, s15, s16⟩
              go_simp
              with_reducible rfl
            rotate_left
            · simp only [Act.put, List.setIfInBounds_toArray, List.set_cons_zero, List.set_cons_succ, i64_w, i32_w]
              rfl
            refine pure_ (i := 11) (N := some 97) (v := ?_) (a' := ?_) #[true, true, true, true, true, true, true, true, true, true, true, true, false, false, true, false, false, false] rfl rfl (any_of HT_.out (by kernel_rfl)) (fun _ _ _ h => h) (Or.inl ⟨by rfl, ?_⟩) ?_ ?_
            rotate_left
            · intro w'
              go_simp
              with_reducible rfl
            rotate_left
            · simp only [Act.put, List.setIfInBounds_toArray, List.set_cons_zero, List.set_cons_succ, i64_w, i32_w]
              rfl
            refine pure_ (i := 12) (N := some 98) (v := ?_) (a' := ?_) #[true, true, true, true, true, true, true, true, true, true, true, true, true, false, true, false, false, false] rfl rfl (any_of HT_.out (by kernel_rfl)) (fun _ _ _ h => h) (Or.inl ⟨by rfl, ?_⟩) ?_ ?_
            rotate_left
            · intro w'
              go_simp
              with_reducible rfl
            rotate_left
            · simp only [Act.put, List.setIfInBounds_toArray, List.set_cons_zero, List.set_cons_succ, i64_w, i32_w]
              rfl
            refine take_ (i := 15) (N := some 101) (v := ?_) (a' := ?_) #[true, true, true, true, true, true, true, true, true, true, true, true, true, false, true, true, false, false] rfl rfl (take_ofW HT_.out HW_.out (by kernel_rfl)) (fun _ _ _ h => h) (Or.inl ⟨by rfl, ?_⟩) hHeld ?_ ?_
            rotate_left
            · rintro w' ⟨s0, s1, s2, s3, s4, s5, s6, s7, s8, s9, s10, s11, s12, s13, s14, s15, s16⟩
              go_simp
              with_reducible rfl
            rotate_left
            · simp only [Act.put, List.setIfInBounds_toArray, List.set_cons_zero, List.set_cons_succ, i64_w, i32_w]
              rfl
            refine one_ (i := 13) (N := some 99) #[true, true, true, true, true, true, true, true, true, true, true, true, true, true, true, true, false, false] rfl rfl (one_of HT_.out (by kernel_rfl)) (by decide) (fun K hK => ?_)
            refine goes_ Try.func17 (by kernel_rfl) rfl #[.agg #[.int .i64 x168000_1, .int .i64 x168001_1, .int .i64 x168002_1, .int .i64 x168003_1], .agg #[.int .i64 t158, .int .i64 t159, .int .i64 t160, .int .i64 t161], .int .i64 (wrap64 ((wrap64 (x8_1 + (wrap64 (2 * t149)))) + (wrap64 (t150 * t158))))] (by rfl) rfl rfl (by (try simp only [List.map_toArray, List.map_cons, List.map_nil]); first | done | rfl | (simp only [List.length_drop, List.length_take]; rfl)) ?_
            with_reducible refine (cell_Cell_Room.calls k1 x168000_1 x168001_1 x168002_1 x168003_1 t158 t159 t160 t161 (wrap64 ((wrap64 (x8_1 + (wrap64 (2 * t149)))) + (wrap64 (t150 * t158)))) t168 _ A99.out).mono ?_
            rintro e w101 ⟨rfl, hb⟩
            refine ⟨_, rfl, ?_⟩
            have n0_ := Aside0.mk (blk_below (g := gb146) (o := .cells #[.int .i64 a0_0, .int .i64 a0_1, .int .i64 a0_2] 23 (0, 0)) (by (with_reducible repeat (first | refine blk_drewN ?_ _ | refine blk_drew ?_ | refine blk_alloc ?_ _)); exact BK146.out) hb)
            have n1_ := Aside0.mk (blk_below (g := gb157) (o := .cells #[.int .i64 t148, .int .i64 t149, .int .i64 t150, .int .i64 t151, .int .i64 t152, .int .i64 t153, .int .i64 t154, .int .i64 t155, .bool t156] 28 (0, 0)) (by (with_reducible repeat (first | refine blk_drewN ?_ _ | refine blk_drew ?_ | refine blk_alloc ?_ _)); exact BK157.out) hb)
            have n2_ := Aside0.mk (blk_below (g := gb162) (o := .cells #[.int .i64 t158, .int .i64 t159, .int .i64 t160, .int .i64 t161] 31 (0, 0)) (by (with_reducible repeat (first | refine blk_drewN ?_ _ | refine blk_drew ?_ | refine blk_alloc ?_ _)); exact BK162.out) hb)
            have n3_ := Aside0.mk (IsS36.below (by repeat (first | (with_reducible first | exact HI167.out | apply IsS36.alloc | apply IsS36.drewN | apply IsS36.drew | apply IsS36.set_0 | apply IsS36.set_1 | apply IsS36.set_2 | apply IsS36.set_3 | refine IsS36.far ?_ NB167_146.out _ | refine IsS36.far ?_ NB167_157.out _ | refine IsS36.far ?_ NB167_162.out _) | exact HI167.out)) hb)
            have n4_ := Aside0.mk (below_step (by repeat (first | (with_reducible first | exact HB.out | apply below_alloc | apply pw_below_drewN | apply below_drew1 | refine below_set ?_ (IsS36.ge HI167.out) | refine below_set ?_ GE146.out | refine below_set ?_ GE157.out | refine below_set ?_ GE162.out) | exact HB.out)) hb)
            clear BK146
            clear BK157
            clear BK162
            clear HI167
            clear HB
            have BK146 := n0_
            have BK157 := n1_
            have BK162 := n2_
            have HI167 := n3_
            have HB := n4_
            clear n0_ n1_ n2_ n3_ n4_
            (try clear hb)
            (try clear hb2)
            (try clear hk)
            (try clear hi)
            refine hK.out _ _ ⟨(blk_cell (Aside0.mk HI167.out.1).out 0).trans rfl, (blk_cell (Aside0.mk HI167.out.1).out 1).trans rfl, (blk_cell (Aside0.mk HI167.out.1).out 2).trans rfl, (blk_cell (Aside0.mk HI167.out.1).out 3).trans rfl, (blk_cell BK162.out 0).trans rfl, (blk_cell BK162.out 1).trans rfl, (blk_cell BK162.out 2).trans rfl, (blk_cell BK162.out 3).trans rfl, (blk_cell BK157.out 0).trans rfl, (blk_cell BK157.out 1).trans rfl, (blk_cell BK157.out 2).trans rfl, (blk_cell BK157.out 3).trans rfl, (blk_cell BK157.out 4).trans rfl, (blk_cell BK157.out 5).trans rfl, (blk_cell BK157.out 6).trans rfl, (blk_cell BK157.out 7).trans rfl, (blk_cell BK157.out 8).trans rfl⟩ (fun hHeld => ?_)
            clear hK K
            refine norm_ (a' := ?_) ?_ ?_
            rotate_left
            · show Act.put _ (some 99) _ = _
              simp only [Act.put, List.setIfInBounds_toArray, List.set_cons_zero, List.set_cons_succ, i64_w, i32_w]
              rfl
            refine pure_ (i := 16) (N := some 102) (v := ?_) (a' := ?_) #[true, true, true, true, true, true, true, true, true, true, true, true, true, true, true, true, true, false] rfl rfl (any_of HT_.out (by kernel_rfl)) (fun _ _ _ h => h) (Or.inl ⟨by rfl, ?_⟩) ?_ ?_
            rotate_left
            · intro w'
              go_simp
              with_reducible rfl
            rotate_left
            · simp only [Act.put, List.setIfInBounds_toArray, List.set_cons_zero, List.set_cons_succ, i64_w, i32_w]
              rfl
            refine pure_ (i := 17) (N := some 4) (v := ?_) (a' := ?_) #[true, true, true, true, true, true, true, true, true, true, true, true, true, true, true, true, true, true] rfl rfl (any_of HT_.out (by kernel_rfl)) (fun _ _ _ h => h) (Or.inl ⟨by rfl, ?_⟩) ?_ ?_
            rotate_left
            · intro w'
              go_simp
              with_reducible rfl
            rotate_left
            · simp only [Act.put, List.setIfInBounds_toArray, List.set_cons_zero, List.set_cons_succ, i64_w, i32_w]
              rfl
            refine done_ (done_of HT_.out (by kernel_rfl)) ?_
            try go_wp2
            go_ret
            exact ⟨by first | rfl | (simp [errW_none, errW_some] <;> rfl) | (simp [*, errW_none, errW_some] <;> rfl), by repeat (first | (with_reducible first | exact HB.out | apply below_alloc | apply pw_below_drewN | apply below_drew1 | refine below_set ?_ (IsS36.ge HI167.out) | refine below_set ?_ GE146.out | refine below_set ?_ GE157.out | refine below_set ?_ GE162.out) | exact HB.out)⟩
  · replace c4 := Bool.eq_false_iff.mpr c4
    subst c4
    have H1 : (some false) = some r := by rw [if_neg (show ¬ (false = true) by decide)] at H; exact H
    clear H
    have H := H1
    clear H1
    exact absurd (Option.some.inj H) (by rw [hr_.out]; decide)

/-- THE ONE PURE STATEMENT of weighbridgelaw09_CellMore. -/
def weighbridgelaw09_CellMore.Pure : Prop := ∀ (a0_0 : Int) (a0_1 : Int) (a0_2 : Int) (l1 : List (S40)), (Lit.int .i64 a0_0).wf = true → (Lit.int .i64 a0_1).wf = true → (Lit.int .i64 a0_2).wf = true → l1.length ≤ maxLen → (∀ x ∈ l1, ((Lit.int .i64 x.f0).wf = true ∧ (Lit.int .i64 x.f1).wf = true)) → ∃ k, weighbridgelaw09_CellMore.f k a0_0 a0_1 a0_2 l1 = some true
theorem weighbridgelaw09_CellMore.walk (P : weighbridgelaw09_CellMore.Pure) (a0_0 : Int) (a0_1 : Int) (a0_2 : Int) (A1 : Option Addr) (c1 : Nat) (l1 : List (S40)) (w : World) (hr1 : Kd.C k40 w A1 l1.length l1) (hc1 : l1.length ≤ c1) (g0 : (Lit.int .i64 a0_0).wf = true) (g1 : (Lit.int .i64 a0_1).wf = true) (g2 : (Lit.int .i64 a0_2).wf = true) (g3 : l1.length ≤ maxLen) (g4 : (∀ x ∈ l1, ((Lit.int .i64 x.f0).wf = true ∧ (Lit.int .i64 x.f1).wf = true))) :
    Calls Try.prog 6 #[.agg #[.int .i64 a0_0, .int .i64 a0_1, .int .i64 a0_2], .slice A1 l1.length c1] w fun e w' => e = .returned (.bool true) ∧ Below w.heap.size w w' := by
  obtain ⟨k, h⟩ := P a0_0 a0_1 a0_2 l1 g0 g1 g2 g3 g4
  refine (weighbridgelaw09_CellMore.calls k a0_0 a0_1 a0_2 A1 c1 l1 true w hr1 hc1 (Aside0.mk rfl) h).mono ?_
  rintro e w' ⟨rfl, hd⟩
  exact ⟨rfl, hd⟩

end Go.Proofs.Ytdnimnlnicnjnaa.QCellMore
