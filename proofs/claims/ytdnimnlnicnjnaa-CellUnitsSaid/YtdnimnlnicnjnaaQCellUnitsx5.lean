-- Laid by a program of this session (wip/myprint.py, over the kit's print.py): a walk of the code and what it computes.
import Derived.Test.YtdnimnlnicnjnaaQCellUnitsx0
import Derived.Test.YtdnimnlnicnjnaaQCellUnitsx1
import Derived.Test.YtdnimnlnicnjnaaQCellUnitsx3
import Derived.Test.YtdnimnlnicnjnaaQCellUnitsx4
namespace Go.Proofs.Ytdnimnlnicnjnaa.QCellUnits
open Go.RowKit Go.Proofs.YtdnimnlnicnjnaaW.PrintWords Go.Proofs.YtdnimnlnicnjnaaW.PrintLast Go.Proofs.YtdnimnlnicnjnaaW.PrintMore
attribute [local go_sem] max2_int min2_int max_two min_two max_three min_three max_four min_four   -- for this text's walks alone
set_option linter.unusedVariables false
set_option linter.unusedSimpArgs false

/-! ### weighbridgelaw09_CellUnits: function 8 -/
mutual
def weighbridgelaw09_CellUnits.j0 : Nat → Int → Bool → Int → Int → Int → Int → Option (Bool)
  | 0, _, _, _, _, _, _ => none
  | k + 1, x1, x61, x163000, x163001, x163002, x163003 => if x61 = true then (some false) else ((cell_New.f 0 0).bind fun bt163 => (weighbridgelaw09_CellUnits.l0 k x1 0 x163000 x163001 x163002 x163003 bt163.1 bt163.2.1 bt163.2.2.1 bt163.2.2.2))
def weighbridgelaw09_CellUnits.l0 : Nat → Int → Int → Int → Int → Int → Int → Int → Int → Int → Int → Option (Bool)
  | 0, _, _, _, _, _, _, _, _, _, _ => none
  | k + 1, x63, x64, x163000, x163001, x163002, x163003, x168000, x168001, x168002, x168003 => if x64 < x63 then ((cell_Cell_Take.f k x168000 x168001 x168002 x168003 x163000 x163001 x163002 x163003 (wrap64 (x64 * x163000)) 1).bind fun bt168 => (if bt168.1 = true then (weighbridgelaw09_CellUnits.l0 k x63 (wrap64 (x64 + 1)) x163000 x163001 x163002 x163003 bt168.2.1 bt168.2.2.1 bt168.2.2.2.1 bt168.2.2.2.2) else (some false))) else (some true)
end
def weighbridgelaw09_CellUnits.f (k : Nat) (a0_0 : Int) (a0_1 : Int) (a0_2 : Int) (a1 : Int) : Option (Bool) := (weighbridgelaw09_fit.f k).bind fun t147 => (if t147 = true then ((weighbridgelaw09_Plan_Rule.f a0_0 a0_1 a0_2).bind fun bt148 => ((cell_Of.f k bt148.1 bt148.2.1 bt148.2.2.1 bt148.2.2.2.1 bt148.2.2.2.2.1 bt148.2.2.2.2.2.1 bt148.2.2.2.2.2.2.1 bt148.2.2.2.2.2.2.2.1 bt148.2.2.2.2.2.2.2.2).bind fun bt158 => (if (wrap64 (bt158.1 * (wrap64 ((wrap64 (bt148.1 + 1)) - bt148.2.2.1)))) < bt148.2.1 then (weighbridgelaw09_CellUnits.j0 k (Go.bits .and .i64 a1 127) true bt158.1 bt158.2.1 bt158.2.2.1 bt158.2.2.2) else (if (wrap64 ((wrap64 (bt158.1 - 1)) * (wrap64 ((wrap64 (bt148.1 + 1)) - bt148.2.2.1)))) ≥ bt148.2.1 then (weighbridgelaw09_CellUnits.j0 k (Go.bits .and .i64 a1 127) true bt158.1 bt158.2.1 bt158.2.2.1 bt158.2.2.2) else (if bt158.2.2.2 = bt148.1 then (if bt158.2.2.1 = bt148.2.2.1 then (weighbridgelaw09_CellUnits.j0 k (Go.bits .and .i64 a1 127) (bt158.2.1 != bt148.2.1) bt158.1 bt158.2.1 bt158.2.2.1 bt158.2.2.2) else (weighbridgelaw09_CellUnits.j0 k (Go.bits .and .i64 a1 127) true bt158.1 bt158.2.1 bt158.2.2.1 bt158.2.2.2)) else (weighbridgelaw09_CellUnits.j0 k (Go.bits .and .i64 a1 127) true bt158.1 bt158.2.1 bt158.2.2.1 bt158.2.2.2)))))) else (some false))
theorem weighbridgelaw09_CellUnits.mono_l : ∀ k, (∀ y0 y1 y2 y3 y4 y5, LeO (weighbridgelaw09_CellUnits.j0 k y0 y1 y2 y3 y4 y5) (weighbridgelaw09_CellUnits.j0 (k + 1) y0 y1 y2 y3 y4 y5)) ∧ (∀ y0 y1 y2 y3 y4 y5 y6 y7 y8 y9, LeO (weighbridgelaw09_CellUnits.l0 k y0 y1 y2 y3 y4 y5 y6 y7 y8 y9) (weighbridgelaw09_CellUnits.l0 (k + 1) y0 y1 y2 y3 y4 y5 y6 y7 y8 y9))
  | 0 => ⟨fun _ _ _ _ _ _ r h => by simp [weighbridgelaw09_CellUnits.j0] at h, fun _ _ _ _ _ _ _ _ _ _ r h => by simp [weighbridgelaw09_CellUnits.l0] at h⟩
  | k + 1 => by
    obtain ⟨ih0, ih1⟩ := weighbridgelaw09_CellUnits.mono_l k
    refine ⟨?_, ?_⟩
    · intro y0 y1 y2 y3 y4 y5
      unfold weighbridgelaw09_CellUnits.j0
      repeat' first
      | (with_reducible exact ih0 _ _ _ _ _ _)
      | (with_reducible exact ih1 _ _ _ _ _ _ _ _ _ _)
      | (with_reducible exact cell_Cell_Take.mono _ _ _ _ _ _ _ _ _ _ _)
      | (with_reducible exact cell_Of.mono _ _ _ _ _ _ _ _ _ _)
      | (with_reducible exact weighbridgelaw09_fit.mono _)
      | (with_reducible exact LeO.refl _)
      | (with_reducible exact LeO.none _)
      | (with_reducible refine LeO.ite ?_ ?_)
      | (with_reducible refine LeO.bind ?_ (fun _ => ?_))
      | exact ih0 _ _ _ _ _ _
      | exact ih1 _ _ _ _ _ _ _ _ _ _
      | exact cell_Cell_Take.mono _ _ _ _ _ _ _ _ _ _ _
      | exact cell_Of.mono _ _ _ _ _ _ _ _ _ _
      | exact weighbridgelaw09_fit.mono _
      | exact LeO.none _
      | refine LeO.ite ?_ ?_
      | refine LeO.bind ?_ (fun _ => ?_)
    · intro y0 y1 y2 y3 y4 y5 y6 y7 y8 y9
      unfold weighbridgelaw09_CellUnits.l0
      repeat' first
      | (with_reducible exact ih0 _ _ _ _ _ _)
      | (with_reducible exact ih1 _ _ _ _ _ _ _ _ _ _)
      | (with_reducible exact cell_Cell_Take.mono _ _ _ _ _ _ _ _ _ _ _)
      | (with_reducible exact cell_Of.mono _ _ _ _ _ _ _ _ _ _)
      | (with_reducible exact weighbridgelaw09_fit.mono _)
      | (with_reducible exact LeO.refl _)
      | (with_reducible exact LeO.none _)
      | (with_reducible refine LeO.ite ?_ ?_)
      | (with_reducible refine LeO.bind ?_ (fun _ => ?_))
      | exact ih0 _ _ _ _ _ _
      | exact ih1 _ _ _ _ _ _ _ _ _ _
      | exact cell_Cell_Take.mono _ _ _ _ _ _ _ _ _ _ _
      | exact cell_Of.mono _ _ _ _ _ _ _ _ _ _
      | exact weighbridgelaw09_fit.mono _
      | exact LeO.none _
      | refine LeO.ite ?_ ?_
      | refine LeO.bind ?_ (fun _ => ?_)
theorem weighbridgelaw09_CellUnits.mono : ∀ a0 a1 a2 a3 k, LeO (weighbridgelaw09_CellUnits.f k a0 a1 a2 a3) (weighbridgelaw09_CellUnits.f (k + 1) a0 a1 a2 a3) := by
  intro a0 a1 a2 a3 k
  obtain ⟨ih0, ih1⟩ := weighbridgelaw09_CellUnits.mono_l k
  unfold weighbridgelaw09_CellUnits.f
  repeat' first
      | (with_reducible exact ih0 _ _ _ _ _ _)
      | (with_reducible exact ih1 _ _ _ _ _ _ _ _ _ _)
      | (with_reducible exact cell_Cell_Take.mono _ _ _ _ _ _ _ _ _ _ _)
      | (with_reducible exact cell_Of.mono _ _ _ _ _ _ _ _ _ _)
      | (with_reducible exact weighbridgelaw09_fit.mono _)
      | (with_reducible exact LeO.refl _)
      | (with_reducible exact LeO.none _)
      | (with_reducible refine LeO.ite ?_ ?_)
      | (with_reducible refine LeO.bind ?_ (fun _ => ?_))
      | exact ih0 _ _ _ _ _ _
      | exact ih1 _ _ _ _ _ _ _ _ _ _
      | exact cell_Cell_Take.mono _ _ _ _ _ _ _ _ _ _ _
      | exact cell_Of.mono _ _ _ _ _ _ _ _ _ _
      | exact weighbridgelaw09_fit.mono _
      | exact LeO.none _
      | refine LeO.ite ?_ ?_
      | refine LeO.bind ?_ (fun _ => ?_)
set_option maxHeartbeats 8000000 in
set_option maxRecDepth 100000 in
theorem weighbridgelaw09_CellUnits.calls (k : Nat) (a0_0 : Int) (a0_1 : Int) (a0_2 : Int) (a1 : Int) (r : Bool) (w : World) (hr_ : Aside0 (r = true)) (h : weighbridgelaw09_CellUnits.f k a0_0 a0_1 a0_2 a1 = some r) :
    Calls Try.prog 8 #[.agg #[.int .i64 a0_0, .int .i64 a0_1, .int .i64 a0_2], .int .i64 a1] w fun e w' => e = .returned (.bool r) ∧ Below w.heap.size w w' := by
  have hu23 := Try.underlying23
  have hu28 := Try.underlying28
  have hu31 := Try.underlying31
  have hu36 := Try.underlying36
  have HB := Aside0.mk (Below.refl w.heap.size w)
  have H : ((weighbridgelaw09_fit.f k).bind fun t147 => (if t147 = true then ((weighbridgelaw09_Plan_Rule.f a0_0 a0_1 a0_2).bind fun bt148 => ((cell_Of.f k bt148.1 bt148.2.1 bt148.2.2.1 bt148.2.2.2.1 bt148.2.2.2.2.1 bt148.2.2.2.2.2.1 bt148.2.2.2.2.2.2.1 bt148.2.2.2.2.2.2.2.1 bt148.2.2.2.2.2.2.2.2).bind fun bt158 => (if (wrap64 (bt158.1 * (wrap64 ((wrap64 (bt148.1 + 1)) - bt148.2.2.1)))) < bt148.2.1 then (weighbridgelaw09_CellUnits.j0 k (Go.bits .and .i64 a1 127) true bt158.1 bt158.2.1 bt158.2.2.1 bt158.2.2.2) else (if (wrap64 ((wrap64 (bt158.1 - 1)) * (wrap64 ((wrap64 (bt148.1 + 1)) - bt148.2.2.1)))) ≥ bt148.2.1 then (weighbridgelaw09_CellUnits.j0 k (Go.bits .and .i64 a1 127) true bt158.1 bt158.2.1 bt158.2.2.1 bt158.2.2.2) else (if bt158.2.2.2 = bt148.1 then (if bt158.2.2.1 = bt148.2.2.1 then (weighbridgelaw09_CellUnits.j0 k (Go.bits .and .i64 a1 127) (bt158.2.1 != bt148.2.1) bt158.1 bt158.2.1 bt158.2.2.1 bt158.2.2.2) else (weighbridgelaw09_CellUnits.j0 k (Go.bits .and .i64 a1 127) true bt158.1 bt158.2.1 bt158.2.2.1 bt158.2.2.2)) else (weighbridgelaw09_CellUnits.j0 k (Go.bits .and .i64 a1 127) true bt158.1 bt158.2.1 bt158.2.2.1 bt158.2.2.2)))))) else (some false))) = some r := h
  clear h
  replace H := Option.bind_eq_some_iff.mp H
  obtain ⟨t147, A30, H⟩ := H
  replace H : (if t147 = true then ((weighbridgelaw09_Plan_Rule.f a0_0 a0_1 a0_2).bind fun bt148 => ((cell_Of.f k bt148.1 bt148.2.1 bt148.2.2.1 bt148.2.2.2.1 bt148.2.2.2.2.1 bt148.2.2.2.2.2.1 bt148.2.2.2.2.2.2.1 bt148.2.2.2.2.2.2.2.1 bt148.2.2.2.2.2.2.2.2).bind fun bt158 => (if (wrap64 (bt158.1 * (wrap64 ((wrap64 (bt148.1 + 1)) - bt148.2.2.1)))) < bt148.2.1 then (weighbridgelaw09_CellUnits.j0 k (Go.bits .and .i64 a1 127) true bt158.1 bt158.2.1 bt158.2.2.1 bt158.2.2.2) else (if (wrap64 ((wrap64 (bt158.1 - 1)) * (wrap64 ((wrap64 (bt148.1 + 1)) - bt148.2.2.1)))) ≥ bt148.2.1 then (weighbridgelaw09_CellUnits.j0 k (Go.bits .and .i64 a1 127) true bt158.1 bt158.2.1 bt158.2.2.1 bt158.2.2.2) else (if bt158.2.2.2 = bt148.1 then (if bt158.2.2.1 = bt148.2.2.1 then (weighbridgelaw09_CellUnits.j0 k (Go.bits .and .i64 a1 127) (bt158.2.1 != bt148.2.1) bt158.1 bt158.2.1 bt158.2.2.1 bt158.2.2.2) else (weighbridgelaw09_CellUnits.j0 k (Go.bits .and .i64 a1 127) true bt158.1 bt158.2.1 bt158.2.2.1 bt158.2.2.2)) else (weighbridgelaw09_CellUnits.j0 k (Go.bits .and .i64 a1 127) true bt158.1 bt158.2.1 bt158.2.2.1 bt158.2.2.2)))))) else (some false)) = some r := H
  have A3 := Aside0.mk A30
  clear A30
  by_cases c4 : t147 = true
  · subst c4
    have H1 : ((weighbridgelaw09_Plan_Rule.f a0_0 a0_1 a0_2).bind fun bt148 => ((cell_Of.f k bt148.1 bt148.2.1 bt148.2.2.1 bt148.2.2.2.1 bt148.2.2.2.2.1 bt148.2.2.2.2.2.1 bt148.2.2.2.2.2.2.1 bt148.2.2.2.2.2.2.2.1 bt148.2.2.2.2.2.2.2.2).bind fun bt158 => (if (wrap64 (bt158.1 * (wrap64 ((wrap64 (bt148.1 + 1)) - bt148.2.2.1)))) < bt148.2.1 then (weighbridgelaw09_CellUnits.j0 k (Go.bits .and .i64 a1 127) true bt158.1 bt158.2.1 bt158.2.2.1 bt158.2.2.2) else (if (wrap64 ((wrap64 (bt158.1 - 1)) * (wrap64 ((wrap64 (bt148.1 + 1)) - bt148.2.2.1)))) ≥ bt148.2.1 then (weighbridgelaw09_CellUnits.j0 k (Go.bits .and .i64 a1 127) true bt158.1 bt158.2.1 bt158.2.2.1 bt158.2.2.2) else (if bt158.2.2.2 = bt148.1 then (if bt158.2.2.1 = bt148.2.2.1 then (weighbridgelaw09_CellUnits.j0 k (Go.bits .and .i64 a1 127) (bt158.2.1 != bt148.2.1) bt158.1 bt158.2.1 bt158.2.2.1 bt158.2.2.2) else (weighbridgelaw09_CellUnits.j0 k (Go.bits .and .i64 a1 127) true bt158.1 bt158.2.1 bt158.2.2.1 bt158.2.2.2)) else (weighbridgelaw09_CellUnits.j0 k (Go.bits .and .i64 a1 127) true bt158.1 bt158.2.1 bt158.2.2.1 bt158.2.2.2)))))) = some r := by rw [if_pos rfl] at H; exact H
    clear H
    have H := H1
    clear H1
    replace H := Option.bind_eq_some_iff.mp H
    obtain ⟨⟨t148, t149, t150, t151, t152, t153, t154, t155, t156⟩, A50, H⟩ := H
    replace H : ((cell_Of.f k t148 t149 t150 t151 t152 t153 t154 t155 t156).bind fun bt158 => (if (wrap64 (bt158.1 * (wrap64 ((wrap64 (t148 + 1)) - t150)))) < t149 then (weighbridgelaw09_CellUnits.j0 k (Go.bits .and .i64 a1 127) true bt158.1 bt158.2.1 bt158.2.2.1 bt158.2.2.2) else (if (wrap64 ((wrap64 (bt158.1 - 1)) * (wrap64 ((wrap64 (t148 + 1)) - t150)))) ≥ t149 then (weighbridgelaw09_CellUnits.j0 k (Go.bits .and .i64 a1 127) true bt158.1 bt158.2.1 bt158.2.2.1 bt158.2.2.2) else (if bt158.2.2.2 = t148 then (if bt158.2.2.1 = t150 then (weighbridgelaw09_CellUnits.j0 k (Go.bits .and .i64 a1 127) (bt158.2.1 != t149) bt158.1 bt158.2.1 bt158.2.2.1 bt158.2.2.2) else (weighbridgelaw09_CellUnits.j0 k (Go.bits .and .i64 a1 127) true bt158.1 bt158.2.1 bt158.2.2.1 bt158.2.2.2)) else (weighbridgelaw09_CellUnits.j0 k (Go.bits .and .i64 a1 127) true bt158.1 bt158.2.1 bt158.2.2.1 bt158.2.2.2))))) = some r := H
    have A5 := Aside0.mk A50
    clear A50
    replace H := Option.bind_eq_some_iff.mp H
    obtain ⟨⟨t158, t159, t160, t161⟩, A60, H⟩ := H
    replace H : (if (wrap64 (t158 * (wrap64 ((wrap64 (t148 + 1)) - t150)))) < t149 then (weighbridgelaw09_CellUnits.j0 k (Go.bits .and .i64 a1 127) true t158 t159 t160 t161) else (if (wrap64 ((wrap64 (t158 - 1)) * (wrap64 ((wrap64 (t148 + 1)) - t150)))) ≥ t149 then (weighbridgelaw09_CellUnits.j0 k (Go.bits .and .i64 a1 127) true t158 t159 t160 t161) else (if t161 = t148 then (if t160 = t150 then (weighbridgelaw09_CellUnits.j0 k (Go.bits .and .i64 a1 127) (t159 != t149) t158 t159 t160 t161) else (weighbridgelaw09_CellUnits.j0 k (Go.bits .and .i64 a1 127) true t158 t159 t160 t161)) else (weighbridgelaw09_CellUnits.j0 k (Go.bits .and .i64 a1 127) true t158 t159 t160 t161)))) = some r := H
    have A6 := Aside0.mk A60
    clear A60
    have HC7 := Aside0.mk H
    clear H
    go_enter Try.func8, Try.ntmps8
    go_upto_region 7 with (first | ((with_reducible refine gate_dst (N := 2) rfl ?_); refine box_event ?hg (N := 2) ?hd (cs := #[.int .i64 a0_0, .int .i64 a0_1, .int .i64 a0_2]) (t := 23) ?hr ?_; (case hd => rfl); (case hg => rfl); (case hr => first | (go_simp; done) | (go_simp; rfl)); intro gb146 hg w8 hbox hb; have n0_ := Aside0.mk (below_step (by repeat (first | (with_reducible first | exact HB.out | apply below_alloc | apply pw_below_drewN | apply below_drew1) | exact HB.out)) hb); have n1_ := Aside0.mk (hbox); have n2_ := Aside0.mk ((by rw [hg]; exact (below_size (by repeat (first | (with_reducible first | exact HB.out | apply below_alloc | apply pw_below_drewN | apply below_drew1) | exact HB.out))) : w.heap.size ≤ gb146)); have n3_ := Aside0.mk ((by rw [hg]; exact (below_size (by repeat (first | (with_reducible first | exact HB.out | apply below_alloc | apply pw_below_drewN | apply below_drew1) | exact HB.out))) : w.heap.size ≤ gb146)); clear HB; have HB := n0_; have BK146 := n1_; have GW146 := n2_; have GE146 := n3_; clear n0_ n1_ n2_ n3_; clear hb hbox hg) | ((with_reducible refine gate_callee (f := 11) rfl ?_); refine goesL_ (some 10) rfl rfl Try.func11 (by kernel_rfl) rfl #[] rfl (by (try simp only [List.map_toArray, List.map_cons, List.map_nil]); first | done | rfl | (simp only [List.length_drop, List.length_take]; rfl)) ?_; (with_reducible refine (weighbridgelaw09_fit.calls k  true _ A3.out).mono ?_); rintro e w9 ⟨rfl, hb⟩; refine ⟨_, rfl, ?_⟩; have n0_ := Aside0.mk (blk_below (g := gb146) (o := .cells #[.int .i64 a0_0, .int .i64 a0_1, .int .i64 a0_2] 23 (0, 0)) (by (with_reducible repeat (first | refine blk_drewN ?_ _ | refine blk_drew ?_ | refine blk_alloc ?_ _)); exact BK146.out) hb); have n1_ := Aside0.mk (below_step (by repeat (first | (with_reducible first | exact HB.out | apply below_alloc | apply pw_below_drewN | apply below_drew1 | refine below_set ?_ GE146.out) | exact HB.out)) hb); clear BK146; clear HB; have BK146 := n0_; have HB := n1_; clear n0_ n1_; (try clear hb); (try clear hb2); (try clear hk); (try clear hi); have hcz10_0 : w9.cell? ⟨gb146, 0, none⟩ = some (.int .i64 a0_0) := (blk_cell BK146.out 0).trans rfl; have hcz10_1 : w9.cell? ⟨gb146, 1, none⟩ = some (.int .i64 a0_1) := (blk_cell BK146.out 1).trans rfl; have hcz10_2 : w9.cell? ⟨gb146, 2, none⟩ = some (.int .i64 a0_2) := (blk_cell BK146.out 2).trans rfl; have hfz10_0 := blk_frozen BK146.out 0; have hfz10_1 := blk_frozen BK146.out 1; have hfz10_2 := blk_frozen BK146.out 2) | ((with_reducible refine gate_callee (f := 12) rfl ?_); refine goesL_ (some 13) rfl rfl Try.func12 (by kernel_rfl) rfl #[.agg #[.int .i64 a0_0, .int .i64 a0_1, .int .i64 a0_2]] rfl (by (try simp only [List.map_toArray, List.map_cons, List.map_nil]); first | done | rfl | (simp only [List.length_drop, List.length_take]; rfl)) ?_; (with_reducible refine (weighbridgelaw09_Plan_Rule.calls a0_0 a0_1 a0_2 t148 t149 t150 t151 t152 t153 t154 t155 t156 _ A5.out).mono ?_); rintro e w11 ⟨rfl, hb⟩; refine ⟨_, rfl, ?_⟩; have n0_ := Aside0.mk (blk_below (g := gb146) (o := .cells #[.int .i64 a0_0, .int .i64 a0_1, .int .i64 a0_2] 23 (0, 0)) (by (with_reducible repeat (first | refine blk_drewN ?_ _ | refine blk_drew ?_ | refine blk_alloc ?_ _)); exact BK146.out) hb); have n1_ := Aside0.mk (below_step (by repeat (first | (with_reducible first | exact HB.out | apply below_alloc | apply pw_below_drewN | apply below_drew1 | refine below_set ?_ GE146.out) | exact HB.out)) hb); clear BK146; clear HB; have BK146 := n0_; have HB := n1_; clear n0_ n1_; (try clear hb); (try clear hb2); (try clear hk); (try clear hi)) | ((with_reducible refine gate_dst (N := 5) rfl ?_); refine box_event ?hg (N := 5) ?hd (cs := #[.int .i64 0, .int .i64 0, .int .i64 0, .int .i64 0, .int .i64 0, .int .i64 0, .int .i64 0, .int .i64 0, .bool false]) (t := 28) ?hr ?_; (case hd => rfl); (case hg => rfl); (case hr => first | (go_simp; done) | (go_simp; rfl)); intro gb157 hg w12 hbox hb; have n0_ := Aside0.mk (blk_below (g := gb146) (o := .cells #[.int .i64 a0_0, .int .i64 a0_1, .int .i64 a0_2] 23 (0, 0)) (by (with_reducible repeat (first | refine blk_drewN ?_ _ | refine blk_drew ?_ | refine blk_alloc ?_ _)); exact BK146.out) hb); have n1_ := Aside0.mk (below_step (by repeat (first | (with_reducible first | exact HB.out | apply below_alloc | apply pw_below_drewN | apply below_drew1 | refine below_set ?_ GE146.out) | exact HB.out)) hb); have n2_ := Aside0.mk (hbox); have n3_ := Aside0.mk ((by rw [hg]; exact (below_size (by repeat (first | (with_reducible first | exact HB.out | apply below_alloc | apply pw_below_drewN | apply below_drew1 | refine below_set ?_ GE146.out) | exact HB.out))) : w.heap.size ≤ gb157)); have n4_ := Aside0.mk ((by rw [hg]; exact (below_size (by repeat (first | (with_reducible first | exact HB.out | apply below_alloc | apply pw_below_drewN | apply below_drew1 | refine below_set ?_ GE146.out) | exact HB.out))) : w.heap.size ≤ gb157)); have n5_ := Aside0.mk ((by rw [hg]; exact Nat.ne_of_lt (blk_lt (g := gb146) (o := .cells #[.int .i64 a0_0, .int .i64 a0_1, .int .i64 a0_2] 23 (0, 0)) (by (with_reducible repeat (first | refine blk_drewN ?_ _ | refine blk_drew ?_ | refine blk_alloc ?_ _)); exact BK146.out)) : gb146 ≠ gb157)); have n6_ := Aside0.mk ((by rw [hg]; exact Nat.ne_of_gt (blk_lt (g := gb146) (o := .cells #[.int .i64 a0_0, .int .i64 a0_1, .int .i64 a0_2] 23 (0, 0)) (by (with_reducible repeat (first | refine blk_drewN ?_ _ | refine blk_drew ?_ | refine blk_alloc ?_ _)); exact BK146.out)) : gb157 ≠ gb146)); clear BK146; clear HB; have BK146 := n0_; have HB := n1_; have BK157 := n2_; have GW157 := n3_; have GE157 := n4_; have NB146_157 := n5_; have NB157_146 := n6_; clear n0_ n1_ n2_ n3_ n4_ n5_ n6_; clear hb hbox hg; have hnb13 := NB157_146.out; have hnc13 := NB146_157.out; have hcz14_0 : w12.cell? ⟨gb157, 0, none⟩ = some (.int .i64 0) := (blk_cell BK157.out 0).trans rfl; have hcz14_1 : w12.cell? ⟨gb157, 1, none⟩ = some (.int .i64 0) := (blk_cell BK157.out 1).trans rfl; have hcz14_2 : w12.cell? ⟨gb157, 2, none⟩ = some (.int .i64 0) := (blk_cell BK157.out 2).trans rfl; have hcz14_3 : w12.cell? ⟨gb157, 3, none⟩ = some (.int .i64 0) := (blk_cell BK157.out 3).trans rfl; have hcz14_4 : w12.cell? ⟨gb157, 4, none⟩ = some (.int .i64 0) := (blk_cell BK157.out 4).trans rfl; have hcz14_5 : w12.cell? ⟨gb157, 5, none⟩ = some (.int .i64 0) := (blk_cell BK157.out 5).trans rfl; have hcz14_6 : w12.cell? ⟨gb157, 6, none⟩ = some (.int .i64 0) := (blk_cell BK157.out 6).trans rfl; have hcz14_7 : w12.cell? ⟨gb157, 7, none⟩ = some (.int .i64 0) := (blk_cell BK157.out 7).trans rfl; have hcz14_8 : w12.cell? ⟨gb157, 8, none⟩ = some (.bool false) := (blk_cell BK157.out 8).trans rfl; have hfz14_0 := blk_frozen BK157.out 0; have hfz14_1 := blk_frozen BK157.out 1; have hfz14_2 := blk_frozen BK157.out 2; have hfz14_3 := blk_frozen BK157.out 3; have hfz14_4 := blk_frozen BK157.out 4; have hfz14_5 := blk_frozen BK157.out 5; have hfz14_6 := blk_frozen BK157.out 6; have hfz14_7 := blk_frozen BK157.out 7; have hfz14_8 := blk_frozen BK157.out 8) | ((with_reducible refine gate_callee (f := 13) rfl ?_); refine goesL_ (some 15) rfl rfl Try.func13 (by kernel_rfl) rfl #[.agg #[.int .i64 t148, .int .i64 t149, .int .i64 t150, .int .i64 t151, .int .i64 t152, .int .i64 t153, .int .i64 t154, .int .i64 t155, .bool t156]] rfl (by (try simp only [List.map_toArray, List.map_cons, List.map_nil]); first | done | rfl | (simp only [List.length_drop, List.length_take]; rfl)) ?_; (with_reducible refine (cell_Of.calls k t148 t149 t150 t151 t152 t153 t154 t155 t156 t158 t159 t160 t161 _ A6.out).mono ?_); rintro e w15 ⟨rfl, hb⟩; refine ⟨_, rfl, ?_⟩; have n0_ := Aside0.mk (blk_below (g := gb146) (o := .cells #[.int .i64 a0_0, .int .i64 a0_1, .int .i64 a0_2] 23 (0, 0)) (by (with_reducible repeat (first | refine blk_drewN ?_ _ | refine blk_drew ?_ | refine blk_alloc ?_ _)); refine blk_far ?_ NB146_157.out _; (with_reducible repeat (first | refine blk_drewN ?_ _ | refine blk_drew ?_ | refine blk_alloc ?_ _)); refine blk_far ?_ NB146_157.out _; (with_reducible repeat (first | refine blk_drewN ?_ _ | refine blk_drew ?_ | refine blk_alloc ?_ _)); refine blk_far ?_ NB146_157.out _; (with_reducible repeat (first | refine blk_drewN ?_ _ | refine blk_drew ?_ | refine blk_alloc ?_ _)); refine blk_far ?_ NB146_157.out _; (with_reducible repeat (first | refine blk_drewN ?_ _ | refine blk_drew ?_ | refine blk_alloc ?_ _)); refine blk_far ?_ NB146_157.out _; (with_reducible repeat (first | refine blk_drewN ?_ _ | refine blk_drew ?_ | refine blk_alloc ?_ _)); refine blk_far ?_ NB146_157.out _; (with_reducible repeat (first | refine blk_drewN ?_ _ | refine blk_drew ?_ | refine blk_alloc ?_ _)); refine blk_far ?_ NB146_157.out _; (with_reducible repeat (first | refine blk_drewN ?_ _ | refine blk_drew ?_ | refine blk_alloc ?_ _)); refine blk_far ?_ NB146_157.out _; (with_reducible repeat (first | refine blk_drewN ?_ _ | refine blk_drew ?_ | refine blk_alloc ?_ _)); refine blk_far ?_ NB146_157.out _; (with_reducible repeat (first | refine blk_drewN ?_ _ | refine blk_drew ?_ | refine blk_alloc ?_ _)); exact BK146.out) hb); have n1_ := Aside0.mk (blk_below (g := gb157) (o := .cells #[.int .i64 t148, .int .i64 t149, .int .i64 t150, .int .i64 t151, .int .i64 t152, .int .i64 t153, .int .i64 t154, .int .i64 t155, .bool t156] 28 (0, 0)) (by (with_reducible repeat (first | refine blk_drewN ?_ _ | refine blk_drew ?_ | refine blk_alloc ?_ _)); refine blk_put (cs := #[.int .i64 t148, .int .i64 t149, .int .i64 t150, .int .i64 t151, .int .i64 t152, .int .i64 t153, .int .i64 t154, .int .i64 t155, .bool false]) ?_ 8 _ rfl; (with_reducible repeat (first | refine blk_drewN ?_ _ | refine blk_drew ?_ | refine blk_alloc ?_ _)); refine blk_put (cs := #[.int .i64 t148, .int .i64 t149, .int .i64 t150, .int .i64 t151, .int .i64 t152, .int .i64 t153, .int .i64 t154, .int .i64 0, .bool false]) ?_ 7 _ rfl; (with_reducible repeat (first | refine blk_drewN ?_ _ | refine blk_drew ?_ | refine blk_alloc ?_ _)); refine blk_put (cs := #[.int .i64 t148, .int .i64 t149, .int .i64 t150, .int .i64 t151, .int .i64 t152, .int .i64 t153, .int .i64 0, .int .i64 0, .bool false]) ?_ 6 _ rfl; (with_reducible repeat (first | refine blk_drewN ?_ _ | refine blk_drew ?_ | refine blk_alloc ?_ _)); refine blk_put (cs := #[.int .i64 t148, .int .i64 t149, .int .i64 t150, .int .i64 t151, .int .i64 t152, .int .i64 0, .int .i64 0, .int .i64 0, .bool false]) ?_ 5 _ rfl; (with_reducible repeat (first | refine blk_drewN ?_ _ | refine blk_drew ?_ | refine blk_alloc ?_ _)); refine blk_put (cs := #[.int .i64 t148, .int .i64 t149, .int .i64 t150, .int .i64 t151, .int .i64 0, .int .i64 0, .int .i64 0, .int .i64 0, .bool false]) ?_ 4 _ rfl; (with_reducible repeat (first | refine blk_drewN ?_ _ | refine blk_drew ?_ | refine blk_alloc ?_ _)); refine blk_put (cs := #[.int .i64 t148, .int .i64 t149, .int .i64 t150, .int .i64 0, .int .i64 0, .int .i64 0, .int .i64 0, .int .i64 0, .bool false]) ?_ 3 _ rfl; (with_reducible repeat (first | refine blk_drewN ?_ _ | refine blk_drew ?_ | refine blk_alloc ?_ _)); refine blk_put (cs := #[.int .i64 t148, .int .i64 t149, .int .i64 0, .int .i64 0, .int .i64 0, .int .i64 0, .int .i64 0, .int .i64 0, .bool false]) ?_ 2 _ rfl; (with_reducible repeat (first | refine blk_drewN ?_ _ | refine blk_drew ?_ | refine blk_alloc ?_ _)); refine blk_put (cs := #[.int .i64 t148, .int .i64 0, .int .i64 0, .int .i64 0, .int .i64 0, .int .i64 0, .int .i64 0, .int .i64 0, .bool false]) ?_ 1 _ rfl; (with_reducible repeat (first | refine blk_drewN ?_ _ | refine blk_drew ?_ | refine blk_alloc ?_ _)); refine blk_put (cs := #[.int .i64 0, .int .i64 0, .int .i64 0, .int .i64 0, .int .i64 0, .int .i64 0, .int .i64 0, .int .i64 0, .bool false]) ?_ 0 _ rfl; (with_reducible repeat (first | refine blk_drewN ?_ _ | refine blk_drew ?_ | refine blk_alloc ?_ _)); exact BK157.out) hb); have n2_ := Aside0.mk (below_step (by repeat (first | (with_reducible first | exact HB.out | apply below_alloc | apply pw_below_drewN | apply below_drew1 | refine below_set ?_ GE146.out | refine below_set ?_ GE157.out) | exact HB.out)) hb); clear BK146; clear BK157; clear HB; have BK146 := n0_; have BK157 := n1_; have HB := n2_; clear n0_ n1_ n2_; (try clear hb); (try clear hb2); (try clear hk); (try clear hi)) | ((with_reducible refine gate_dst (N := 6) rfl ?_); refine box_event ?hg (N := 6) ?hd (cs := #[.int .i64 0, .int .i64 0, .int .i64 0, .int .i64 0]) (t := 31) ?hr ?_; (case hd => rfl); (case hg => rfl); (case hr => first | (go_simp; done) | (go_simp; rfl)); intro gb162 hg w16 hbox hb; have n0_ := Aside0.mk (blk_below (g := gb146) (o := .cells #[.int .i64 a0_0, .int .i64 a0_1, .int .i64 a0_2] 23 (0, 0)) (by (with_reducible repeat (first | refine blk_drewN ?_ _ | refine blk_drew ?_ | refine blk_alloc ?_ _)); exact BK146.out) hb); have n1_ := Aside0.mk (blk_below (g := gb157) (o := .cells #[.int .i64 t148, .int .i64 t149, .int .i64 t150, .int .i64 t151, .int .i64 t152, .int .i64 t153, .int .i64 t154, .int .i64 t155, .bool t156] 28 (0, 0)) (by (with_reducible repeat (first | refine blk_drewN ?_ _ | refine blk_drew ?_ | refine blk_alloc ?_ _)); exact BK157.out) hb); have n2_ := Aside0.mk (below_step (by repeat (first | (with_reducible first | exact HB.out | apply below_alloc | apply pw_below_drewN | apply below_drew1 | refine below_set ?_ GE146.out | refine below_set ?_ GE157.out) | exact HB.out)) hb); have n3_ := Aside0.mk (hbox); have n4_ := Aside0.mk ((by rw [hg]; exact (below_size (by repeat (first | (with_reducible first | exact HB.out | apply below_alloc | apply pw_below_drewN | apply below_drew1 | refine below_set ?_ GE146.out | refine below_set ?_ GE157.out) | exact HB.out))) : w.heap.size ≤ gb162)); have n5_ := Aside0.mk ((by rw [hg]; exact (below_size (by repeat (first | (with_reducible first | exact HB.out | apply below_alloc | apply pw_below_drewN | apply below_drew1 | refine below_set ?_ GE146.out | refine below_set ?_ GE157.out) | exact HB.out))) : w.heap.size ≤ gb162)); have n6_ := Aside0.mk ((by rw [hg]; exact Nat.ne_of_lt (blk_lt (g := gb146) (o := .cells #[.int .i64 a0_0, .int .i64 a0_1, .int .i64 a0_2] 23 (0, 0)) (by (with_reducible repeat (first | refine blk_drewN ?_ _ | refine blk_drew ?_ | refine blk_alloc ?_ _)); exact BK146.out)) : gb146 ≠ gb162)); have n7_ := Aside0.mk ((by rw [hg]; exact Nat.ne_of_gt (blk_lt (g := gb146) (o := .cells #[.int .i64 a0_0, .int .i64 a0_1, .int .i64 a0_2] 23 (0, 0)) (by (with_reducible repeat (first | refine blk_drewN ?_ _ | refine blk_drew ?_ | refine blk_alloc ?_ _)); exact BK146.out)) : gb162 ≠ gb146)); have n8_ := Aside0.mk ((by rw [hg]; exact Nat.ne_of_lt (blk_lt (g := gb157) (o := .cells #[.int .i64 t148, .int .i64 t149, .int .i64 t150, .int .i64 t151, .int .i64 t152, .int .i64 t153, .int .i64 t154, .int .i64 t155, .bool t156] 28 (0, 0)) (by (with_reducible repeat (first | refine blk_drewN ?_ _ | refine blk_drew ?_ | refine blk_alloc ?_ _)); exact BK157.out)) : gb157 ≠ gb162)); have n9_ := Aside0.mk ((by rw [hg]; exact Nat.ne_of_gt (blk_lt (g := gb157) (o := .cells #[.int .i64 t148, .int .i64 t149, .int .i64 t150, .int .i64 t151, .int .i64 t152, .int .i64 t153, .int .i64 t154, .int .i64 t155, .bool t156] 28 (0, 0)) (by (with_reducible repeat (first | refine blk_drewN ?_ _ | refine blk_drew ?_ | refine blk_alloc ?_ _)); exact BK157.out)) : gb162 ≠ gb157)); clear BK146; clear BK157; clear HB; have BK146 := n0_; have BK157 := n1_; have HB := n2_; have BK162 := n3_; have GW162 := n4_; have GE162 := n5_; have NB146_162 := n6_; have NB162_146 := n7_; have NB157_162 := n8_; have NB162_157 := n9_; clear n0_ n1_ n2_ n3_ n4_ n5_ n6_ n7_ n8_ n9_; clear hb hbox hg; have hnb17 := NB162_146.out; have hnc17 := NB146_162.out; have hnb18 := NB162_157.out; have hnc18 := NB157_162.out; have hcz19_0 : w16.cell? ⟨gb162, 0, none⟩ = some (.int .i64 0) := (blk_cell BK162.out 0).trans rfl; have hcz19_1 : w16.cell? ⟨gb162, 1, none⟩ = some (.int .i64 0) := (blk_cell BK162.out 1).trans rfl; have hcz19_2 : w16.cell? ⟨gb162, 2, none⟩ = some (.int .i64 0) := (blk_cell BK162.out 2).trans rfl; have hcz19_3 : w16.cell? ⟨gb162, 3, none⟩ = some (.int .i64 0) := (blk_cell BK162.out 3).trans rfl; have hfz19_0 := blk_frozen BK162.out 0; have hfz19_1 := blk_frozen BK162.out 1; have hfz19_2 := blk_frozen BK162.out 2; have hfz19_3 := blk_frozen BK162.out 3; have hcz20_0 : w16.cell? ⟨gb157, 0, none⟩ = some (.int .i64 t148) := (blk_cell BK157.out 0).trans rfl; have hcz20_1 : w16.cell? ⟨gb157, 1, none⟩ = some (.int .i64 t149) := (blk_cell BK157.out 1).trans rfl; have hcz20_2 : w16.cell? ⟨gb157, 2, none⟩ = some (.int .i64 t150) := (blk_cell BK157.out 2).trans rfl; have hcz20_3 : w16.cell? ⟨gb157, 3, none⟩ = some (.int .i64 t151) := (blk_cell BK157.out 3).trans rfl; have hcz20_4 : w16.cell? ⟨gb157, 4, none⟩ = some (.int .i64 t152) := (blk_cell BK157.out 4).trans rfl; have hcz20_5 : w16.cell? ⟨gb157, 5, none⟩ = some (.int .i64 t153) := (blk_cell BK157.out 5).trans rfl; have hcz20_6 : w16.cell? ⟨gb157, 6, none⟩ = some (.int .i64 t154) := (blk_cell BK157.out 6).trans rfl; have hcz20_7 : w16.cell? ⟨gb157, 7, none⟩ = some (.int .i64 t155) := (blk_cell BK157.out 7).trans rfl; have hcz20_8 : w16.cell? ⟨gb157, 8, none⟩ = some (.bool t156) := (blk_cell BK157.out 8).trans rfl; have hfz20_0 := blk_frozen BK157.out 0; have hfz20_1 := blk_frozen BK157.out 1; have hfz20_2 := blk_frozen BK157.out 2; have hfz20_3 := blk_frozen BK157.out 3; have hfz20_4 := blk_frozen BK157.out 4; have hfz20_5 := blk_frozen BK157.out 5; have hfz20_6 := blk_frozen BK157.out 6; have hfz20_7 := blk_frozen BK157.out 7; have hfz20_8 := blk_frozen BK157.out 8))
    (try simp only [Act.put, List.setIfInBounds_toArray, List.set_cons_zero, List.set_cons_succ])
    go_cut [61] (fun v61 wc => ∃ (kq : Nat) (x61_6 : Bool), v61 = .bool x61_6 ∧ Aside0 (weighbridgelaw09_CellUnits.j0 kq (Go.bits .and .i64 a1 127) x61_6 t158 t159 t160 t161 = some r) ∧ Aside0 (kq ≤ k) ∧ Aside0 (wc.heap[gb146]? = some (.cells #[.int .i64 a0_0, .int .i64 a0_1, .int .i64 a0_2] 23 (0, 0))) ∧ Aside0 (wc.heap[gb157]? = some (.cells #[.int .i64 t148, .int .i64 t149, .int .i64 t150, .int .i64 t151, .int .i64 t152, .int .i64 t153, .int .i64 t154, .int .i64 t155, .bool t156] 28 (0, 0))) ∧ Aside0 (wc.heap[gb162]? = some (.cells #[.int .i64 t158, .int .i64 t159, .int .i64 t160, .int .i64 t161] 31 (0, 0))) ∧ Aside0 (Below w.heap.size w wc))
    case first =>
      have H := HC7.out
      clear HC7
      by_cases c21 : (wrap64 (t158 * (wrap64 ((wrap64 (t148 + 1)) - t150)))) < t149
      · rw [if_pos c21] at H
        have c21b0 : decide ((wrap64 (t158 * (wrap64 ((wrap64 (t148 + 1)) - t150)))) < t149) = true := decide_eq_true c21
        clear c21
        (first | rw [c21b0] | (simp only [i64_w, i32_w]; rw [c21b0]) | skip)
        have H' := Aside0.mk H
        clear H
        have hnb22 := NB162_146.out
        have hnc22 := NB146_162.out
        have hnb23 := NB162_157.out
        have hnc23 := NB157_162.out
        have hcz24_0 : w16.cell? ⟨gb162, 0, none⟩ = some (.int .i64 0) := (blk_cell BK162.out 0).trans rfl
        have hcz24_1 : w16.cell? ⟨gb162, 1, none⟩ = some (.int .i64 0) := (blk_cell BK162.out 1).trans rfl
        have hcz24_2 : w16.cell? ⟨gb162, 2, none⟩ = some (.int .i64 0) := (blk_cell BK162.out 2).trans rfl
        have hcz24_3 : w16.cell? ⟨gb162, 3, none⟩ = some (.int .i64 0) := (blk_cell BK162.out 3).trans rfl
        have hfz24_0 := blk_frozen BK162.out 0
        have hfz24_1 := blk_frozen BK162.out 1
        have hfz24_2 := blk_frozen BK162.out 2
        have hfz24_3 := blk_frozen BK162.out 3
        have hnb25 := NB157_146.out
        have hnc25 := NB146_157.out
        have hcz26_0 : w16.cell? ⟨gb157, 0, none⟩ = some (.int .i64 t148) := (blk_cell BK157.out 0).trans rfl
        have hcz26_1 : w16.cell? ⟨gb157, 1, none⟩ = some (.int .i64 t149) := (blk_cell BK157.out 1).trans rfl
        have hcz26_2 : w16.cell? ⟨gb157, 2, none⟩ = some (.int .i64 t150) := (blk_cell BK157.out 2).trans rfl
        have hcz26_3 : w16.cell? ⟨gb157, 3, none⟩ = some (.int .i64 t151) := (blk_cell BK157.out 3).trans rfl
        have hcz26_4 : w16.cell? ⟨gb157, 4, none⟩ = some (.int .i64 t152) := (blk_cell BK157.out 4).trans rfl
        have hcz26_5 : w16.cell? ⟨gb157, 5, none⟩ = some (.int .i64 t153) := (blk_cell BK157.out 5).trans rfl
        have hcz26_6 : w16.cell? ⟨gb157, 6, none⟩ = some (.int .i64 t154) := (blk_cell BK157.out 6).trans rfl
        have hcz26_7 : w16.cell? ⟨gb157, 7, none⟩ = some (.int .i64 t155) := (blk_cell BK157.out 7).trans rfl
        have hcz26_8 : w16.cell? ⟨gb157, 8, none⟩ = some (.bool t156) := (blk_cell BK157.out 8).trans rfl
        have hfz26_0 := blk_frozen BK157.out 0
        have hfz26_1 := blk_frozen BK157.out 1
        have hfz26_2 := blk_frozen BK157.out 2
        have hfz26_3 := blk_frozen BK157.out 3
        have hfz26_4 := blk_frozen BK157.out 4
        have hfz26_5 := blk_frozen BK157.out 5
        have hfz26_6 := blk_frozen BK157.out 6
        have hfz26_7 := blk_frozen BK157.out 7
        have hfz26_8 := blk_frozen BK157.out 8
        go_wp2
        go_meet
        case rel => exact ⟨_, (true), (by first | rfl | (simp; done) | (simp [*]; done)), H', ⟨by first | omega | exact Nat.le_refl _⟩, ⟨by (with_reducible repeat (first | refine blk_drewN ?_ _ | refine blk_drew ?_ | refine blk_alloc ?_ _)); refine blk_far ?_ NB146_162.out _; (with_reducible repeat (first | refine blk_drewN ?_ _ | refine blk_drew ?_ | refine blk_alloc ?_ _)); refine blk_far ?_ NB146_162.out _; (with_reducible repeat (first | refine blk_drewN ?_ _ | refine blk_drew ?_ | refine blk_alloc ?_ _)); refine blk_far ?_ NB146_162.out _; (with_reducible repeat (first | refine blk_drewN ?_ _ | refine blk_drew ?_ | refine blk_alloc ?_ _)); refine blk_far ?_ NB146_162.out _; (with_reducible repeat (first | refine blk_drewN ?_ _ | refine blk_drew ?_ | refine blk_alloc ?_ _)); exact BK146.out⟩, ⟨by (with_reducible repeat (first | refine blk_drewN ?_ _ | refine blk_drew ?_ | refine blk_alloc ?_ _)); refine blk_far ?_ NB157_162.out _; (with_reducible repeat (first | refine blk_drewN ?_ _ | refine blk_drew ?_ | refine blk_alloc ?_ _)); refine blk_far ?_ NB157_162.out _; (with_reducible repeat (first | refine blk_drewN ?_ _ | refine blk_drew ?_ | refine blk_alloc ?_ _)); refine blk_far ?_ NB157_162.out _; (with_reducible repeat (first | refine blk_drewN ?_ _ | refine blk_drew ?_ | refine blk_alloc ?_ _)); refine blk_far ?_ NB157_162.out _; (with_reducible repeat (first | refine blk_drewN ?_ _ | refine blk_drew ?_ | refine blk_alloc ?_ _)); exact BK157.out⟩, ⟨by (with_reducible repeat (first | refine blk_drewN ?_ _ | refine blk_drew ?_ | refine blk_alloc ?_ _)); refine blk_put (cs := #[.int .i64 t158, .int .i64 t159, .int .i64 t160, .int .i64 0]) ?_ 3 _ rfl; (with_reducible repeat (first | refine blk_drewN ?_ _ | refine blk_drew ?_ | refine blk_alloc ?_ _)); refine blk_put (cs := #[.int .i64 t158, .int .i64 t159, .int .i64 0, .int .i64 0]) ?_ 2 _ rfl; (with_reducible repeat (first | refine blk_drewN ?_ _ | refine blk_drew ?_ | refine blk_alloc ?_ _)); refine blk_put (cs := #[.int .i64 t158, .int .i64 0, .int .i64 0, .int .i64 0]) ?_ 1 _ rfl; (with_reducible repeat (first | refine blk_drewN ?_ _ | refine blk_drew ?_ | refine blk_alloc ?_ _)); refine blk_put (cs := #[.int .i64 0, .int .i64 0, .int .i64 0, .int .i64 0]) ?_ 0 _ rfl; (with_reducible repeat (first | refine blk_drewN ?_ _ | refine blk_drew ?_ | refine blk_alloc ?_ _)); exact BK162.out⟩, ⟨by repeat (first | (with_reducible first | exact HB.out | apply below_alloc | apply pw_below_drewN | apply below_drew1 | refine below_set ?_ GE146.out | refine below_set ?_ GE157.out | refine below_set ?_ GE162.out) | exact HB.out)⟩⟩
      · rw [if_neg c21] at H
        have c21b0 : decide ((wrap64 (t158 * (wrap64 ((wrap64 (t148 + 1)) - t150)))) < t149) = false := decide_eq_false c21
        clear c21
        (first | rw [c21b0] | (simp only [i64_w, i32_w]; rw [c21b0]) | skip)
        by_cases c27 : (wrap64 ((wrap64 (t158 - 1)) * (wrap64 ((wrap64 (t148 + 1)) - t150)))) ≥ t149
        · rw [if_pos c27] at H
          have c27b0 : decide (t149 ≤ (wrap64 ((wrap64 (t158 - 1)) * (wrap64 ((wrap64 (t148 + 1)) - t150))))) = true := decide_eq_true c27
          clear c27
          have H' := Aside0.mk H
          clear H
          have hnb28 := NB162_146.out
          have hnc28 := NB146_162.out
          have hnb29 := NB162_157.out
          have hnc29 := NB157_162.out
          have hcz30_0 : w16.cell? ⟨gb162, 0, none⟩ = some (.int .i64 0) := (blk_cell BK162.out 0).trans rfl
          have hcz30_1 : w16.cell? ⟨gb162, 1, none⟩ = some (.int .i64 0) := (blk_cell BK162.out 1).trans rfl
          have hcz30_2 : w16.cell? ⟨gb162, 2, none⟩ = some (.int .i64 0) := (blk_cell BK162.out 2).trans rfl
          have hcz30_3 : w16.cell? ⟨gb162, 3, none⟩ = some (.int .i64 0) := (blk_cell BK162.out 3).trans rfl
          have hfz30_0 := blk_frozen BK162.out 0
          have hfz30_1 := blk_frozen BK162.out 1
          have hfz30_2 := blk_frozen BK162.out 2
          have hfz30_3 := blk_frozen BK162.out 3
          have hnb31 := NB157_146.out
          have hnc31 := NB146_157.out
          have hcz32_0 : w16.cell? ⟨gb157, 0, none⟩ = some (.int .i64 t148) := (blk_cell BK157.out 0).trans rfl
          have hcz32_1 : w16.cell? ⟨gb157, 1, none⟩ = some (.int .i64 t149) := (blk_cell BK157.out 1).trans rfl
          have hcz32_2 : w16.cell? ⟨gb157, 2, none⟩ = some (.int .i64 t150) := (blk_cell BK157.out 2).trans rfl
          have hcz32_3 : w16.cell? ⟨gb157, 3, none⟩ = some (.int .i64 t151) := (blk_cell BK157.out 3).trans rfl
          have hcz32_4 : w16.cell? ⟨gb157, 4, none⟩ = some (.int .i64 t152) := (blk_cell BK157.out 4).trans rfl
          have hcz32_5 : w16.cell? ⟨gb157, 5, none⟩ = some (.int .i64 t153) := (blk_cell BK157.out 5).trans rfl
          have hcz32_6 : w16.cell? ⟨gb157, 6, none⟩ = some (.int .i64 t154) := (blk_cell BK157.out 6).trans rfl
          have hcz32_7 : w16.cell? ⟨gb157, 7, none⟩ = some (.int .i64 t155) := (blk_cell BK157.out 7).trans rfl
          have hcz32_8 : w16.cell? ⟨gb157, 8, none⟩ = some (.bool t156) := (blk_cell BK157.out 8).trans rfl
          have hfz32_0 := blk_frozen BK157.out 0
          have hfz32_1 := blk_frozen BK157.out 1
          have hfz32_2 := blk_frozen BK157.out 2
          have hfz32_3 := blk_frozen BK157.out 3
          have hfz32_4 := blk_frozen BK157.out 4
          have hfz32_5 := blk_frozen BK157.out 5
          have hfz32_6 := blk_frozen BK157.out 6
          have hfz32_7 := blk_frozen BK157.out 7
          have hfz32_8 := blk_frozen BK157.out 8
          go_wp2
          go_meet
          case rel => exact ⟨_, (true), (by first | rfl | (simp; done) | (simp [*]; done)), H', ⟨by first | omega | exact Nat.le_refl _⟩, ⟨by (with_reducible repeat (first | refine blk_drewN ?_ _ | refine blk_drew ?_ | refine blk_alloc ?_ _)); refine blk_far ?_ NB146_162.out _; (with_reducible repeat (first | refine blk_drewN ?_ _ | refine blk_drew ?_ | refine blk_alloc ?_ _)); refine blk_far ?_ NB146_162.out _; (with_reducible repeat (first | refine blk_drewN ?_ _ | refine blk_drew ?_ | refine blk_alloc ?_ _)); refine blk_far ?_ NB146_162.out _; (with_reducible repeat (first | refine blk_drewN ?_ _ | refine blk_drew ?_ | refine blk_alloc ?_ _)); refine blk_far ?_ NB146_162.out _; (with_reducible repeat (first | refine blk_drewN ?_ _ | refine blk_drew ?_ | refine blk_alloc ?_ _)); exact BK146.out⟩, ⟨by (with_reducible repeat (first | refine blk_drewN ?_ _ | refine blk_drew ?_ | refine blk_alloc ?_ _)); refine blk_far ?_ NB157_162.out _; (with_reducible repeat (first | refine blk_drewN ?_ _ | refine blk_drew ?_ | refine blk_alloc ?_ _)); refine blk_far ?_ NB157_162.out _; (with_reducible repeat (first | refine blk_drewN ?_ _ | refine blk_drew ?_ | refine blk_alloc ?_ _)); refine blk_far ?_ NB157_162.out _; (with_reducible repeat (first | refine blk_drewN ?_ _ | refine blk_drew ?_ | refine blk_alloc ?_ _)); refine blk_far ?_ NB157_162.out _; (with_reducible repeat (first | refine blk_drewN ?_ _ | refine blk_drew ?_ | refine blk_alloc ?_ _)); exact BK157.out⟩, ⟨by (with_reducible repeat (first | refine blk_drewN ?_ _ | refine blk_drew ?_ | refine blk_alloc ?_ _)); refine blk_put (cs := #[.int .i64 t158, .int .i64 t159, .int .i64 t160, .int .i64 0]) ?_ 3 _ rfl; (with_reducible repeat (first | refine blk_drewN ?_ _ | refine blk_drew ?_ | refine blk_alloc ?_ _)); refine blk_put (cs := #[.int .i64 t158, .int .i64 t159, .int .i64 0, .int .i64 0]) ?_ 2 _ rfl; (with_reducible repeat (first | refine blk_drewN ?_ _ | refine blk_drew ?_ | refine blk_alloc ?_ _)); refine blk_put (cs := #[.int .i64 t158, .int .i64 0, .int .i64 0, .int .i64 0]) ?_ 1 _ rfl; (with_reducible repeat (first | refine blk_drewN ?_ _ | refine blk_drew ?_ | refine blk_alloc ?_ _)); refine blk_put (cs := #[.int .i64 0, .int .i64 0, .int .i64 0, .int .i64 0]) ?_ 0 _ rfl; (with_reducible repeat (first | refine blk_drewN ?_ _ | refine blk_drew ?_ | refine blk_alloc ?_ _)); exact BK162.out⟩, ⟨by repeat (first | (with_reducible first | exact HB.out | apply below_alloc | apply pw_below_drewN | apply below_drew1 | refine below_set ?_ GE146.out | refine below_set ?_ GE157.out | refine below_set ?_ GE162.out) | exact HB.out)⟩⟩
        · rw [if_neg c27] at H
          have c27b0 : decide (t149 ≤ (wrap64 ((wrap64 (t158 - 1)) * (wrap64 ((wrap64 (t148 + 1)) - t150))))) = false := decide_eq_false c27
          clear c27
          by_cases c33 : t161 = t148
          · rw [if_pos c33] at H
            have c33b0 : (t161 == t148) = true := beq_iff_eq.mpr c33
            have c33b1 : (t161 != t148) = false := bne_eq_false_iff_eq.mpr c33
            clear c33
            by_cases c34 : t160 = t150
            · rw [if_pos c34] at H
              have c34b0 : (t160 == t150) = true := beq_iff_eq.mpr c34
              have c34b1 : (t160 != t150) = false := bne_eq_false_iff_eq.mpr c34
              clear c34
              have H' := Aside0.mk H
              clear H
              have hnb35 := NB162_146.out
              have hnc35 := NB146_162.out
              have hnb36 := NB162_157.out
              have hnc36 := NB157_162.out
              have hcz37_0 : w16.cell? ⟨gb162, 0, none⟩ = some (.int .i64 0) := (blk_cell BK162.out 0).trans rfl
              have hcz37_1 : w16.cell? ⟨gb162, 1, none⟩ = some (.int .i64 0) := (blk_cell BK162.out 1).trans rfl
              have hcz37_2 : w16.cell? ⟨gb162, 2, none⟩ = some (.int .i64 0) := (blk_cell BK162.out 2).trans rfl
              have hcz37_3 : w16.cell? ⟨gb162, 3, none⟩ = some (.int .i64 0) := (blk_cell BK162.out 3).trans rfl
              have hfz37_0 := blk_frozen BK162.out 0
              have hfz37_1 := blk_frozen BK162.out 1
              have hfz37_2 := blk_frozen BK162.out 2
              have hfz37_3 := blk_frozen BK162.out 3
              have hnb38 := NB157_146.out
              have hnc38 := NB146_157.out
              have hcz39_0 : w16.cell? ⟨gb157, 0, none⟩ = some (.int .i64 t148) := (blk_cell BK157.out 0).trans rfl
              have hcz39_1 : w16.cell? ⟨gb157, 1, none⟩ = some (.int .i64 t149) := (blk_cell BK157.out 1).trans rfl
              have hcz39_2 : w16.cell? ⟨gb157, 2, none⟩ = some (.int .i64 t150) := (blk_cell BK157.out 2).trans rfl
              have hcz39_3 : w16.cell? ⟨gb157, 3, none⟩ = some (.int .i64 t151) := (blk_cell BK157.out 3).trans rfl
              have hcz39_4 : w16.cell? ⟨gb157, 4, none⟩ = some (.int .i64 t152) := (blk_cell BK157.out 4).trans rfl
              have hcz39_5 : w16.cell? ⟨gb157, 5, none⟩ = some (.int .i64 t153) := (blk_cell BK157.out 5).trans rfl
              have hcz39_6 : w16.cell? ⟨gb157, 6, none⟩ = some (.int .i64 t154) := (blk_cell BK157.out 6).trans rfl
              have hcz39_7 : w16.cell? ⟨gb157, 7, none⟩ = some (.int .i64 t155) := (blk_cell BK157.out 7).trans rfl
              have hcz39_8 : w16.cell? ⟨gb157, 8, none⟩ = some (.bool t156) := (blk_cell BK157.out 8).trans rfl
              have hfz39_0 := blk_frozen BK157.out 0
              have hfz39_1 := blk_frozen BK157.out 1
              have hfz39_2 := blk_frozen BK157.out 2
              have hfz39_3 := blk_frozen BK157.out 3
              have hfz39_4 := blk_frozen BK157.out 4
              have hfz39_5 := blk_frozen BK157.out 5
              have hfz39_6 := blk_frozen BK157.out 6
              have hfz39_7 := blk_frozen BK157.out 7
              have hfz39_8 := blk_frozen BK157.out 8
              go_wp2
              go_meet
              case rel => exact ⟨_, ((t159 != t149)), (by first | rfl | (simp; done) | (simp [*]; done)), H', ⟨by first | omega | exact Nat.le_refl _⟩, ⟨by (with_reducible repeat (first | refine blk_drewN ?_ _ | refine blk_drew ?_ | refine blk_alloc ?_ _)); refine blk_far ?_ NB146_162.out _; (with_reducible repeat (first | refine blk_drewN ?_ _ | refine blk_drew ?_ | refine blk_alloc ?_ _)); refine blk_far ?_ NB146_162.out _; (with_reducible repeat (first | refine blk_drewN ?_ _ | refine blk_drew ?_ | refine blk_alloc ?_ _)); refine blk_far ?_ NB146_162.out _; (with_reducible repeat (first | refine blk_drewN ?_ _ | refine blk_drew ?_ | refine blk_alloc ?_ _)); refine blk_far ?_ NB146_162.out _; (with_reducible repeat (first | refine blk_drewN ?_ _ | refine blk_drew ?_ | refine blk_alloc ?_ _)); exact BK146.out⟩, ⟨by (with_reducible repeat (first | refine blk_drewN ?_ _ | refine blk_drew ?_ | refine blk_alloc ?_ _)); refine blk_far ?_ NB157_162.out _; (with_reducible repeat (first | refine blk_drewN ?_ _ | refine blk_drew ?_ | refine blk_alloc ?_ _)); refine blk_far ?_ NB157_162.out _; (with_reducible repeat (first | refine blk_drewN ?_ _ | refine blk_drew ?_ | refine blk_alloc ?_ _)); refine blk_far ?_ NB157_162.out _; (with_reducible repeat (first | refine blk_drewN ?_ _ | refine blk_drew ?_ | refine blk_alloc ?_ _)); refine blk_far ?_ NB157_162.out _; (with_reducible repeat (first | refine blk_drewN ?_ _ | refine blk_drew ?_ | refine blk_alloc ?_ _)); exact BK157.out⟩, ⟨by (with_reducible repeat (first | refine blk_drewN ?_ _ | refine blk_drew ?_ | refine blk_alloc ?_ _)); refine blk_put (cs := #[.int .i64 t158, .int .i64 t159, .int .i64 t160, .int .i64 0]) ?_ 3 _ rfl; (with_reducible repeat (first | refine blk_drewN ?_ _ | refine blk_drew ?_ | refine blk_alloc ?_ _)); refine blk_put (cs := #[.int .i64 t158, .int .i64 t159, .int .i64 0, .int .i64 0]) ?_ 2 _ rfl; (with_reducible repeat (first | refine blk_drewN ?_ _ | refine blk_drew ?_ | refine blk_alloc ?_ _)); refine blk_put (cs := #[.int .i64 t158, .int .i64 0, .int .i64 0, .int .i64 0]) ?_ 1 _ rfl; (with_reducible repeat (first | refine blk_drewN ?_ _ | refine blk_drew ?_ | refine blk_alloc ?_ _)); refine blk_put (cs := #[.int .i64 0, .int .i64 0, .int .i64 0, .int .i64 0]) ?_ 0 _ rfl; (with_reducible repeat (first | refine blk_drewN ?_ _ | refine blk_drew ?_ | refine blk_alloc ?_ _)); exact BK162.out⟩, ⟨by repeat (first | (with_reducible first | exact HB.out | apply below_alloc | apply pw_below_drewN | apply below_drew1 | refine below_set ?_ GE146.out | refine below_set ?_ GE157.out | refine below_set ?_ GE162.out) | exact HB.out)⟩⟩
            · rw [if_neg c34] at H
              have c34b0 : (t160 == t150) = false := beq_eq_false_iff_ne.mpr c34
              have c34b1 : (t160 != t150) = true := bne_iff_ne.mpr c34
              have H' := Aside0.mk H
              clear H
              have hnb40 := NB162_146.out
              have hnc40 := NB146_162.out
              have hnb41 := NB162_157.out
              have hnc41 := NB157_162.out
              have hcz42_0 : w16.cell? ⟨gb162, 0, none⟩ = some (.int .i64 0) := (blk_cell BK162.out 0).trans rfl
              have hcz42_1 : w16.cell? ⟨gb162, 1, none⟩ = some (.int .i64 0) := (blk_cell BK162.out 1).trans rfl
              have hcz42_2 : w16.cell? ⟨gb162, 2, none⟩ = some (.int .i64 0) := (blk_cell BK162.out 2).trans rfl
              have hcz42_3 : w16.cell? ⟨gb162, 3, none⟩ = some (.int .i64 0) := (blk_cell BK162.out 3).trans rfl
              have hfz42_0 := blk_frozen BK162.out 0
              have hfz42_1 := blk_frozen BK162.out 1
              have hfz42_2 := blk_frozen BK162.out 2
              have hfz42_3 := blk_frozen BK162.out 3
              have hnb43 := NB157_146.out
              have hnc43 := NB146_157.out
              have hcz44_0 : w16.cell? ⟨gb157, 0, none⟩ = some (.int .i64 t148) := (blk_cell BK157.out 0).trans rfl
              have hcz44_1 : w16.cell? ⟨gb157, 1, none⟩ = some (.int .i64 t149) := (blk_cell BK157.out 1).trans rfl
              have hcz44_2 : w16.cell? ⟨gb157, 2, none⟩ = some (.int .i64 t150) := (blk_cell BK157.out 2).trans rfl
              have hcz44_3 : w16.cell? ⟨gb157, 3, none⟩ = some (.int .i64 t151) := (blk_cell BK157.out 3).trans rfl
              have hcz44_4 : w16.cell? ⟨gb157, 4, none⟩ = some (.int .i64 t152) := (blk_cell BK157.out 4).trans rfl
              have hcz44_5 : w16.cell? ⟨gb157, 5, none⟩ = some (.int .i64 t153) := (blk_cell BK157.out 5).trans rfl
              have hcz44_6 : w16.cell? ⟨gb157, 6, none⟩ = some (.int .i64 t154) := (blk_cell BK157.out 6).trans rfl
              have hcz44_7 : w16.cell? ⟨gb157, 7, none⟩ = some (.int .i64 t155) := (blk_cell BK157.out 7).trans rfl
              have hcz44_8 : w16.cell? ⟨gb157, 8, none⟩ = some (.bool t156) := (blk_cell BK157.out 8).trans rfl
              have hfz44_0 := blk_frozen BK157.out 0
              have hfz44_1 := blk_frozen BK157.out 1
              have hfz44_2 := blk_frozen BK157.out 2
              have hfz44_3 := blk_frozen BK157.out 3
              have hfz44_4 := blk_frozen BK157.out 4
              have hfz44_5 := blk_frozen BK157.out 5
              have hfz44_6 := blk_frozen BK157.out 6
              have hfz44_7 := blk_frozen BK157.out 7
              have hfz44_8 := blk_frozen BK157.out 8
              go_wp2
              go_meet
              case rel => exact ⟨_, (true), (by first | rfl | (simp; done) | (simp [*]; done)), H', ⟨by first | omega | exact Nat.le_refl _⟩, ⟨by (with_reducible repeat (first | refine blk_drewN ?_ _ | refine blk_drew ?_ | refine blk_alloc ?_ _)); refine blk_far ?_ NB146_162.out _; (with_reducible repeat (first | refine blk_drewN ?_ _ | refine blk_drew ?_ | refine blk_alloc ?_ _)); refine blk_far ?_ NB146_162.out _; (with_reducible repeat (first | refine blk_drewN ?_ _ | refine blk_drew ?_ | refine blk_alloc ?_ _)); refine blk_far ?_ NB146_162.out _; (with_reducible repeat (first | refine blk_drewN ?_ _ | refine blk_drew ?_ | refine blk_alloc ?_ _)); refine blk_far ?_ NB146_162.out _; (with_reducible repeat (first | refine blk_drewN ?_ _ | refine blk_drew ?_ | refine blk_alloc ?_ _)); exact BK146.out⟩, ⟨by (with_reducible repeat (first | refine blk_drewN ?_ _ | refine blk_drew ?_ | refine blk_alloc ?_ _)); refine blk_far ?_ NB157_162.out _; (with_reducible repeat (first | refine blk_drewN ?_ _ | refine blk_drew ?_ | refine blk_alloc ?_ _)); refine blk_far ?_ NB157_162.out _; (with_reducible repeat (first | refine blk_drewN ?_ _ | refine blk_drew ?_ | refine blk_alloc ?_ _)); refine blk_far ?_ NB157_162.out _; (with_reducible repeat (first | refine blk_drewN ?_ _ | refine blk_drew ?_ | refine blk_alloc ?_ _)); refine blk_far ?_ NB157_162.out _; (with_reducible repeat (first | refine blk_drewN ?_ _ | refine blk_drew ?_ | refine blk_alloc ?_ _)); exact BK157.out⟩, ⟨by (with_reducible repeat (first | refine blk_drewN ?_ _ | refine blk_drew ?_ | refine blk_alloc ?_ _)); refine blk_put (cs := #[.int .i64 t158, .int .i64 t159, .int .i64 t160, .int .i64 0]) ?_ 3 _ rfl; (with_reducible repeat (first | refine blk_drewN ?_ _ | refine blk_drew ?_ | refine blk_alloc ?_ _)); refine blk_put (cs := #[.int .i64 t158, .int .i64 t159, .int .i64 0, .int .i64 0]) ?_ 2 _ rfl; (with_reducible repeat (first | refine blk_drewN ?_ _ | refine blk_drew ?_ | refine blk_alloc ?_ _)); refine blk_put (cs := #[.int .i64 t158, .int .i64 0, .int .i64 0, .int .i64 0]) ?_ 1 _ rfl; (with_reducible repeat (first | refine blk_drewN ?_ _ | refine blk_drew ?_ | refine blk_alloc ?_ _)); refine blk_put (cs := #[.int .i64 0, .int .i64 0, .int .i64 0, .int .i64 0]) ?_ 0 _ rfl; (with_reducible repeat (first | refine blk_drewN ?_ _ | refine blk_drew ?_ | refine blk_alloc ?_ _)); exact BK162.out⟩, ⟨by repeat (first | (with_reducible first | exact HB.out | apply below_alloc | apply pw_below_drewN | apply below_drew1 | refine below_set ?_ GE146.out | refine below_set ?_ GE157.out | refine below_set ?_ GE162.out) | exact HB.out)⟩⟩
          · rw [if_neg c33] at H
            have c33b0 : (t161 == t148) = false := beq_eq_false_iff_ne.mpr c33
            have c33b1 : (t161 != t148) = true := bne_iff_ne.mpr c33
            have H' := Aside0.mk H
            clear H
            have hnb45 := NB162_146.out
            have hnc45 := NB146_162.out
            have hnb46 := NB162_157.out
            have hnc46 := NB157_162.out
            have hcz47_0 : w16.cell? ⟨gb162, 0, none⟩ = some (.int .i64 0) := (blk_cell BK162.out 0).trans rfl
            have hcz47_1 : w16.cell? ⟨gb162, 1, none⟩ = some (.int .i64 0) := (blk_cell BK162.out 1).trans rfl
            have hcz47_2 : w16.cell? ⟨gb162, 2, none⟩ = some (.int .i64 0) := (blk_cell BK162.out 2).trans rfl
            have hcz47_3 : w16.cell? ⟨gb162, 3, none⟩ = some (.int .i64 0) := (blk_cell BK162.out 3).trans rfl
            have hfz47_0 := blk_frozen BK162.out 0
            have hfz47_1 := blk_frozen BK162.out 1
            have hfz47_2 := blk_frozen BK162.out 2
            have hfz47_3 := blk_frozen BK162.out 3
            have hnb48 := NB157_146.out
            have hnc48 := NB146_157.out
            have hcz49_0 : w16.cell? ⟨gb157, 0, none⟩ = some (.int .i64 t148) := (blk_cell BK157.out 0).trans rfl
            have hcz49_1 : w16.cell? ⟨gb157, 1, none⟩ = some (.int .i64 t149) := (blk_cell BK157.out 1).trans rfl
            have hcz49_2 : w16.cell? ⟨gb157, 2, none⟩ = some (.int .i64 t150) := (blk_cell BK157.out 2).trans rfl
            have hcz49_3 : w16.cell? ⟨gb157, 3, none⟩ = some (.int .i64 t151) := (blk_cell BK157.out 3).trans rfl
            have hcz49_4 : w16.cell? ⟨gb157, 4, none⟩ = some (.int .i64 t152) := (blk_cell BK157.out 4).trans rfl
            have hcz49_5 : w16.cell? ⟨gb157, 5, none⟩ = some (.int .i64 t153) := (blk_cell BK157.out 5).trans rfl
            have hcz49_6 : w16.cell? ⟨gb157, 6, none⟩ = some (.int .i64 t154) := (blk_cell BK157.out 6).trans rfl
            have hcz49_7 : w16.cell? ⟨gb157, 7, none⟩ = some (.int .i64 t155) := (blk_cell BK157.out 7).trans rfl
            have hcz49_8 : w16.cell? ⟨gb157, 8, none⟩ = some (.bool t156) := (blk_cell BK157.out 8).trans rfl
            have hfz49_0 := blk_frozen BK157.out 0
            have hfz49_1 := blk_frozen BK157.out 1
            have hfz49_2 := blk_frozen BK157.out 2
            have hfz49_3 := blk_frozen BK157.out 3
            have hfz49_4 := blk_frozen BK157.out 4
            have hfz49_5 := blk_frozen BK157.out 5
            have hfz49_6 := blk_frozen BK157.out 6
            have hfz49_7 := blk_frozen BK157.out 7
            have hfz49_8 := blk_frozen BK157.out 8
            go_wp2
            go_meet
            case rel => exact ⟨_, (true), (by first | rfl | (simp; done) | (simp [*]; done)), H', ⟨by first | omega | exact Nat.le_refl _⟩, ⟨by (with_reducible repeat (first | refine blk_drewN ?_ _ | refine blk_drew ?_ | refine blk_alloc ?_ _)); refine blk_far ?_ NB146_162.out _; (with_reducible repeat (first | refine blk_drewN ?_ _ | refine blk_drew ?_ | refine blk_alloc ?_ _)); refine blk_far ?_ NB146_162.out _; (with_reducible repeat (first | refine blk_drewN ?_ _ | refine blk_drew ?_ | refine blk_alloc ?_ _)); refine blk_far ?_ NB146_162.out _; (with_reducible repeat (first | refine blk_drewN ?_ _ | refine blk_drew ?_ | refine blk_alloc ?_ _)); refine blk_far ?_ NB146_162.out _; (with_reducible repeat (first | refine blk_drewN ?_ _ | refine blk_drew ?_ | refine blk_alloc ?_ _)); exact BK146.out⟩, ⟨by (with_reducible repeat (first | refine blk_drewN ?_ _ | refine blk_drew ?_ | refine blk_alloc ?_ _)); refine blk_far ?_ NB157_162.out _; (with_reducible repeat (first | refine blk_drewN ?_ _ | refine blk_drew ?_ | refine blk_alloc ?_ _)); refine blk_far ?_ NB157_162.out _; (with_reducible repeat (first | refine blk_drewN ?_ _ | refine blk_drew ?_ | refine blk_alloc ?_ _)); refine blk_far ?_ NB157_162.out _; (with_reducible repeat (first | refine blk_drewN ?_ _ | refine blk_drew ?_ | refine blk_alloc ?_ _)); refine blk_far ?_ NB157_162.out _; (with_reducible repeat (first | refine blk_drewN ?_ _ | refine blk_drew ?_ | refine blk_alloc ?_ _)); exact BK157.out⟩, ⟨by (with_reducible repeat (first | refine blk_drewN ?_ _ | refine blk_drew ?_ | refine blk_alloc ?_ _)); refine blk_put (cs := #[.int .i64 t158, .int .i64 t159, .int .i64 t160, .int .i64 0]) ?_ 3 _ rfl; (with_reducible repeat (first | refine blk_drewN ?_ _ | refine blk_drew ?_ | refine blk_alloc ?_ _)); refine blk_put (cs := #[.int .i64 t158, .int .i64 t159, .int .i64 0, .int .i64 0]) ?_ 2 _ rfl; (with_reducible repeat (first | refine blk_drewN ?_ _ | refine blk_drew ?_ | refine blk_alloc ?_ _)); refine blk_put (cs := #[.int .i64 t158, .int .i64 0, .int .i64 0, .int .i64 0]) ?_ 1 _ rfl; (with_reducible repeat (first | refine blk_drewN ?_ _ | refine blk_drew ?_ | refine blk_alloc ?_ _)); refine blk_put (cs := #[.int .i64 0, .int .i64 0, .int .i64 0, .int .i64 0]) ?_ 0 _ rfl; (with_reducible repeat (first | refine blk_drewN ?_ _ | refine blk_drew ?_ | refine blk_alloc ?_ _)); exact BK162.out⟩, ⟨by repeat (first | (with_reducible first | exact HB.out | apply below_alloc | apply pw_below_drewN | apply below_drew1 | refine below_set ?_ GE146.out | refine below_set ?_ GE157.out | refine below_set ?_ GE162.out) | exact HB.out)⟩⟩
    case rest =>
      clear HC7
      try clear c1
      try clear c2
      try clear p2
      try clear c3
      try clear c4
      try clear p6
      try clear c8
      try clear c11
      try clear c12
      try clear c13
      try clear c17
      try clear c18
      try clear c21
      try clear c21b0
      try clear c22
      try clear c23
      try clear c25
      try clear c27
      try clear c27b0
      try clear c28
      try clear c29
      try clear c31
      try clear c33
      try clear c33b0
      try clear c33b1
      try clear c34
      try clear c34b0
      try clear c34b1
      try clear c35
      try clear c36
      try clear c38
      try clear c40
      try clear c41
      try clear c43
      try clear c45
      try clear c46
      try clear c48
      try clear hcz10_0
      try clear hcz10_1
      try clear hcz10_2
      try clear hcz14_0
      try clear hcz14_1
      try clear hcz14_2
      try clear hcz14_3
      try clear hcz14_4
      try clear hcz14_5
      try clear hcz14_6
      try clear hcz14_7
      try clear hcz14_8
      try clear hcz19_0
      try clear hcz19_1
      try clear hcz19_2
      try clear hcz19_3
      try clear hcz20_0
      try clear hcz20_1
      try clear hcz20_2
      try clear hcz20_3
      try clear hcz20_4
      try clear hcz20_5
      try clear hcz20_6
      try clear hcz20_7
      try clear hcz20_8
      try clear hcz24_0
      try clear hcz24_1
      try clear hcz24_2
      try clear hcz24_3
      try clear hcz26_0
      try clear hcz26_1
      try clear hcz26_2
      try clear hcz26_3
      try clear hcz26_4
      try clear hcz26_5
      try clear hcz26_6
      try clear hcz26_7
      try clear hcz26_8
      try clear hcz30_0
      try clear hcz30_1
      try clear hcz30_2
      try clear hcz30_3
      try clear hcz32_0
      try clear hcz32_1
      try clear hcz32_2
      try clear hcz32_3
      try clear hcz32_4
      try clear hcz32_5
      try clear hcz32_6
      try clear hcz32_7
      try clear hcz32_8
      try clear hcz37_0
      try clear hcz37_1
      try clear hcz37_2
      try clear hcz37_3
      try clear hcz39_0
      try clear hcz39_1
      try clear hcz39_2
      try clear hcz39_3
      try clear hcz39_4
      try clear hcz39_5
      try clear hcz39_6
      try clear hcz39_7
      try clear hcz39_8
      try clear hcz42_0
      try clear hcz42_1
      try clear hcz42_2
      try clear hcz42_3
      try clear hcz44_0
      try clear hcz44_1
      try clear hcz44_2
      try clear hcz44_3
      try clear hcz44_4
      try clear hcz44_5
      try clear hcz44_6
      try clear hcz44_7
      try clear hcz44_8
      try clear hcz47_0
      try clear hcz47_1
      try clear hcz47_2
      try clear hcz47_3
      try clear hcz49_0
      try clear hcz49_1
      try clear hcz49_2
      try clear hcz49_3
      try clear hcz49_4
      try clear hcz49_5
      try clear hcz49_6
      try clear hcz49_7
      try clear hcz49_8
      try clear hfz10_0
      try clear hfz10_1
      try clear hfz10_2
      try clear hfz14_0
      try clear hfz14_1
      try clear hfz14_2
      try clear hfz14_3
      try clear hfz14_4
      try clear hfz14_5
      try clear hfz14_6
      try clear hfz14_7
      try clear hfz14_8
      try clear hfz19_0
      try clear hfz19_1
      try clear hfz19_2
      try clear hfz19_3
      try clear hfz20_0
      try clear hfz20_1
      try clear hfz20_2
      try clear hfz20_3
      try clear hfz20_4
      try clear hfz20_5
      try clear hfz20_6
      try clear hfz20_7
      try clear hfz20_8
      try clear hfz24_0
      try clear hfz24_1
      try clear hfz24_2
      try clear hfz24_3
      try clear hfz26_0
      try clear hfz26_1
      try clear hfz26_2
      try clear hfz26_3
      try clear hfz26_4
      try clear hfz26_5
      try clear hfz26_6
      try clear hfz26_7
      try clear hfz26_8
      try clear hfz30_0
      try clear hfz30_1
      try clear hfz30_2
      try clear hfz30_3
      try clear hfz32_0
      try clear hfz32_1
      try clear hfz32_2
      try clear hfz32_3
      try clear hfz32_4
      try clear hfz32_5
      try clear hfz32_6
      try clear hfz32_7
      try clear hfz32_8
      try clear hfz37_0
      try clear hfz37_1
      try clear hfz37_2
      try clear hfz37_3
      try clear hfz39_0
      try clear hfz39_1
      try clear hfz39_2
      try clear hfz39_3
      try clear hfz39_4
      try clear hfz39_5
      try clear hfz39_6
      try clear hfz39_7
      try clear hfz39_8
      try clear hfz42_0
      try clear hfz42_1
      try clear hfz42_2
      try clear hfz42_3
      try clear hfz44_0
      try clear hfz44_1
      try clear hfz44_2
      try clear hfz44_3
      try clear hfz44_4
      try clear hfz44_5
      try clear hfz44_6
      try clear hfz44_7
      try clear hfz44_8
      try clear hfz47_0
      try clear hfz47_1
      try clear hfz47_2
      try clear hfz47_3
      try clear hfz49_0
      try clear hfz49_1
      try clear hfz49_2
      try clear hfz49_3
      try clear hfz49_4
      try clear hfz49_5
      try clear hfz49_6
      try clear hfz49_7
      try clear hfz49_8
      obtain ⟨kq, x61_6, rfl, HA, HJ6, BK146, BK157, BK162, HB⟩ := hcut
      cases kq with
      | zero => exact absurd HA.out (by simp [weighbridgelaw09_CellUnits.j0])
      | succ kj6 =>
        have H := HA.out
        clear HA
        simp only [weighbridgelaw09_CellUnits.j0] at H
        by_cases c50 : x61_6 = true
        · subst c50
          have H1 : (some false) = some r := by rw [if_pos rfl] at H; exact H
          clear H
          have H := H1
          clear H1
          exact absurd (Option.some.inj H) (by rw [hr_.out]; decide)
        · replace c50 := Bool.eq_false_iff.mpr c50
          subst c50
          have H1 : ((cell_New.f 0 0).bind fun bt163 => (weighbridgelaw09_CellUnits.l0 kj6 (Go.bits .and .i64 a1 127) 0 t158 t159 t160 t161 bt163.1 bt163.2.1 bt163.2.2.1 bt163.2.2.2)) = some r := by rw [if_neg (show ¬ (false = true) by decide)] at H; exact H
          clear H
          have H := H1
          clear H1
          replace H := Option.bind_eq_some_iff.mp H
          obtain ⟨⟨t163, t164, t165, t166⟩, A510, H⟩ := H
          replace H : (weighbridgelaw09_CellUnits.l0 kj6 (Go.bits .and .i64 a1 127) 0 t158 t159 t160 t161 t163 t164 t165 t166) = some r := H
          have A51 := Aside0.mk A510
          clear A510
          have H' := Aside0.mk H
          clear H
          go_wp2_with (first | ((with_reducible refine gate_callee (f := 15) rfl ?_); refine goesL_ (some 62) rfl rfl Try.func15 (by kernel_rfl) rfl #[.int .i64 0, .int .i64 0] rfl (by (try simp only [List.map_toArray, List.map_cons, List.map_nil]); first | done | rfl | (simp only [List.length_drop, List.length_take]; rfl)) ?_; (with_reducible refine (cell_New.calls 0 0 t163 t164 t165 t166 _ A51.out).mono ?_); rintro e w52 ⟨rfl, hb⟩; refine ⟨_, rfl, ?_⟩; have n0_ := Aside0.mk (blk_below (g := gb146) (o := .cells #[.int .i64 a0_0, .int .i64 a0_1, .int .i64 a0_2] 23 (0, 0)) (by (with_reducible repeat (first | refine blk_drewN ?_ _ | refine blk_drew ?_ | refine blk_alloc ?_ _)); exact BK146.out) hb); have n1_ := Aside0.mk (blk_below (g := gb157) (o := .cells #[.int .i64 t148, .int .i64 t149, .int .i64 t150, .int .i64 t151, .int .i64 t152, .int .i64 t153, .int .i64 t154, .int .i64 t155, .bool t156] 28 (0, 0)) (by (with_reducible repeat (first | refine blk_drewN ?_ _ | refine blk_drew ?_ | refine blk_alloc ?_ _)); exact BK157.out) hb); have n2_ := Aside0.mk (blk_below (g := gb162) (o := .cells #[.int .i64 t158, .int .i64 t159, .int .i64 t160, .int .i64 t161] 31 (0, 0)) (by (with_reducible repeat (first | refine blk_drewN ?_ _ | refine blk_drew ?_ | refine blk_alloc ?_ _)); exact BK162.out) hb); have n3_ := Aside0.mk (below_step (by repeat (first | (with_reducible first | exact HB.out | apply below_alloc | apply pw_below_drewN | apply below_drew1 | refine below_set ?_ GE146.out | refine below_set ?_ GE157.out | refine below_set ?_ GE162.out) | exact HB.out)) hb); clear BK146; clear BK157; clear BK162; clear HB; have BK146 := n0_; have BK157 := n1_; have BK162 := n2_; have HB := n3_; clear n0_ n1_ n2_ n3_; (try clear hb); (try clear hb2); (try clear hk); (try clear hi)) | ((with_reducible refine gate_dst (N := 8) rfl ?_); refine box_event ?hg (N := 8) ?hd (cs := #[.int .i64 0, .int .i64 0, .int .i64 0, .int .i64 0]) (t := 36) ?hr ?_; (case hd => rfl); (case hg => rfl); (case hr => first | (go_simp; done) | (go_simp; rfl)); intro gb167 hg w53 hbox hb; have n0_ := Aside0.mk (blk_below (g := gb146) (o := .cells #[.int .i64 a0_0, .int .i64 a0_1, .int .i64 a0_2] 23 (0, 0)) (by (with_reducible repeat (first | refine blk_drewN ?_ _ | refine blk_drew ?_ | refine blk_alloc ?_ _)); exact BK146.out) hb); have n1_ := Aside0.mk (blk_below (g := gb157) (o := .cells #[.int .i64 t148, .int .i64 t149, .int .i64 t150, .int .i64 t151, .int .i64 t152, .int .i64 t153, .int .i64 t154, .int .i64 t155, .bool t156] 28 (0, 0)) (by (with_reducible repeat (first | refine blk_drewN ?_ _ | refine blk_drew ?_ | refine blk_alloc ?_ _)); exact BK157.out) hb); have n2_ := Aside0.mk (blk_below (g := gb162) (o := .cells #[.int .i64 t158, .int .i64 t159, .int .i64 t160, .int .i64 t161] 31 (0, 0)) (by (with_reducible repeat (first | refine blk_drewN ?_ _ | refine blk_drew ?_ | refine blk_alloc ?_ _)); exact BK162.out) hb); have n3_ := Aside0.mk (below_step (by repeat (first | (with_reducible first | exact HB.out | apply below_alloc | apply pw_below_drewN | apply below_drew1 | refine below_set ?_ GE146.out | refine below_set ?_ GE157.out | refine below_set ?_ GE162.out) | exact HB.out)) hb); have n4_ := Aside0.mk ((by rw [hg]; exact (below_size (by repeat (first | (with_reducible first | exact HB.out | apply below_alloc | apply pw_below_drewN | apply below_drew1 | refine below_set ?_ GE146.out | refine below_set ?_ GE157.out | refine below_set ?_ GE162.out) | exact HB.out))) : w.heap.size ≤ gb167)); have n5_ := Aside0.mk ((by rw [hg]; exact (below_size (by repeat (first | (with_reducible first | exact HB.out | apply below_alloc | apply pw_below_drewN | apply below_drew1 | refine below_set ?_ GE146.out | refine below_set ?_ GE157.out | refine below_set ?_ GE162.out) | exact HB.out))) : w.heap.size ≤ gb167)); have n6_ := Aside0.mk ((by rw [hg]; exact Nat.ne_of_lt (blk_lt (g := gb146) (o := .cells #[.int .i64 a0_0, .int .i64 a0_1, .int .i64 a0_2] 23 (0, 0)) (by (with_reducible repeat (first | refine blk_drewN ?_ _ | refine blk_drew ?_ | refine blk_alloc ?_ _)); exact BK146.out)) : gb146 ≠ gb167)); have n7_ := Aside0.mk ((by rw [hg]; exact Nat.ne_of_gt (blk_lt (g := gb146) (o := .cells #[.int .i64 a0_0, .int .i64 a0_1, .int .i64 a0_2] 23 (0, 0)) (by (with_reducible repeat (first | refine blk_drewN ?_ _ | refine blk_drew ?_ | refine blk_alloc ?_ _)); exact BK146.out)) : gb167 ≠ gb146)); have n8_ := Aside0.mk ((by rw [hg]; exact Nat.ne_of_lt (blk_lt (g := gb157) (o := .cells #[.int .i64 t148, .int .i64 t149, .int .i64 t150, .int .i64 t151, .int .i64 t152, .int .i64 t153, .int .i64 t154, .int .i64 t155, .bool t156] 28 (0, 0)) (by (with_reducible repeat (first | refine blk_drewN ?_ _ | refine blk_drew ?_ | refine blk_alloc ?_ _)); exact BK157.out)) : gb157 ≠ gb167)); have n9_ := Aside0.mk ((by rw [hg]; exact Nat.ne_of_gt (blk_lt (g := gb157) (o := .cells #[.int .i64 t148, .int .i64 t149, .int .i64 t150, .int .i64 t151, .int .i64 t152, .int .i64 t153, .int .i64 t154, .int .i64 t155, .bool t156] 28 (0, 0)) (by (with_reducible repeat (first | refine blk_drewN ?_ _ | refine blk_drew ?_ | refine blk_alloc ?_ _)); exact BK157.out)) : gb167 ≠ gb157)); have n10_ := Aside0.mk ((by rw [hg]; exact Nat.ne_of_lt (blk_lt (g := gb162) (o := .cells #[.int .i64 t158, .int .i64 t159, .int .i64 t160, .int .i64 t161] 31 (0, 0)) (by (with_reducible repeat (first | refine blk_drewN ?_ _ | refine blk_drew ?_ | refine blk_alloc ?_ _)); exact BK162.out)) : gb162 ≠ gb167)); have n11_ := Aside0.mk ((by rw [hg]; exact Nat.ne_of_gt (blk_lt (g := gb162) (o := .cells #[.int .i64 t158, .int .i64 t159, .int .i64 t160, .int .i64 t161] 31 (0, 0)) (by (with_reducible repeat (first | refine blk_drewN ?_ _ | refine blk_drew ?_ | refine blk_alloc ?_ _)); exact BK162.out)) : gb167 ≠ gb162)); have n12_ := Aside0.mk ((show IsS36 w w53 gb167 0 0 0 0 from ⟨hbox, by rw [hg]; exact (below_size (by repeat (first | (with_reducible first | exact HB.out | apply below_alloc | apply pw_below_drewN | apply below_drew1 | refine below_set ?_ GE146.out | refine below_set ?_ GE157.out | refine below_set ?_ GE162.out) | exact HB.out)))⟩)); clear BK146; clear BK157; clear BK162; clear HB; have BK146 := n0_; have BK157 := n1_; have BK162 := n2_; have HB := n3_; have GW167 := n4_; have GE167 := n5_; have NB146_167 := n6_; have NB167_146 := n7_; have NB157_167 := n8_; have NB167_157 := n9_; have NB162_167 := n10_; have NB167_162 := n11_; have HI167 := n12_; clear n0_ n1_ n2_ n3_ n4_ n5_ n6_ n7_ n8_ n9_ n10_ n11_ n12_; clear hb hbox hg; obtain ⟨HGz54, hgz54⟩ := HI167.out; have hcz54_0 := cellS36_0 HGz54; have hcz54_1 := cellS36_1 HGz54; have hcz54_2 := cellS36_2 HGz54; have hcz54_3 := cellS36_3 HGz54; have hfz54_0 := blk_frozen HGz54 0; have hfz54_1 := blk_frozen HGz54 1; have hfz54_2 := blk_frozen HGz54 2; have hfz54_3 := blk_frozen HGz54 3; clear HGz54 hgz54))
          go_loopg [64] kj6 (fun kq v64 w' => ∃ (x64_2 : Int) (x168000_2 : Int) (x168001_2 : Int) (x168002_2 : Int) (x168003_2 : Int), v64 = .int .i64 x64_2 ∧ Aside0 (weighbridgelaw09_CellUnits.l0 kq (Go.bits .and .i64 a1 127) x64_2 t158 t159 t160 t161 x168000_2 x168001_2 x168002_2 x168003_2 = some r) ∧ Aside0 (kq ≤ kj6) ∧ Aside0 (w'.heap[gb146]? = some (.cells #[.int .i64 a0_0, .int .i64 a0_1, .int .i64 a0_2] 23 (0, 0))) ∧ Aside0 (w'.heap[gb157]? = some (.cells #[.int .i64 t148, .int .i64 t149, .int .i64 t150, .int .i64 t151, .int .i64 t152, .int .i64 t153, .int .i64 t154, .int .i64 t155, .bool t156] 28 (0, 0))) ∧ Aside0 (w'.heap[gb162]? = some (.cells #[.int .i64 t158, .int .i64 t159, .int .i64 t160, .int .i64 t161] 31 (0, 0))) ∧ Aside0 (IsS36 w w' gb167 x168000_2 x168001_2 x168002_2 x168003_2) ∧ Aside0 (Below w.heap.size w w'))
          case atStart => exact ⟨(0), (t163), (t164), (t165), (t166), (by first | rfl | (simp; done) | (simp [*]; done)), H', ⟨Nat.le_refl _⟩, ⟨by (with_reducible repeat (first | refine blk_drewN ?_ _ | refine blk_drew ?_ | refine blk_alloc ?_ _)); refine blk_far ?_ NB146_167.out _; (with_reducible repeat (first | refine blk_drewN ?_ _ | refine blk_drew ?_ | refine blk_alloc ?_ _)); refine blk_far ?_ NB146_167.out _; (with_reducible repeat (first | refine blk_drewN ?_ _ | refine blk_drew ?_ | refine blk_alloc ?_ _)); refine blk_far ?_ NB146_167.out _; (with_reducible repeat (first | refine blk_drewN ?_ _ | refine blk_drew ?_ | refine blk_alloc ?_ _)); refine blk_far ?_ NB146_167.out _; (with_reducible repeat (first | refine blk_drewN ?_ _ | refine blk_drew ?_ | refine blk_alloc ?_ _)); exact BK146.out⟩, ⟨by (with_reducible repeat (first | refine blk_drewN ?_ _ | refine blk_drew ?_ | refine blk_alloc ?_ _)); refine blk_far ?_ NB157_167.out _; (with_reducible repeat (first | refine blk_drewN ?_ _ | refine blk_drew ?_ | refine blk_alloc ?_ _)); refine blk_far ?_ NB157_167.out _; (with_reducible repeat (first | refine blk_drewN ?_ _ | refine blk_drew ?_ | refine blk_alloc ?_ _)); refine blk_far ?_ NB157_167.out _; (with_reducible repeat (first | refine blk_drewN ?_ _ | refine blk_drew ?_ | refine blk_alloc ?_ _)); refine blk_far ?_ NB157_167.out _; (with_reducible repeat (first | refine blk_drewN ?_ _ | refine blk_drew ?_ | refine blk_alloc ?_ _)); exact BK157.out⟩, ⟨by (with_reducible repeat (first | refine blk_drewN ?_ _ | refine blk_drew ?_ | refine blk_alloc ?_ _)); refine blk_far ?_ NB162_167.out _; (with_reducible repeat (first | refine blk_drewN ?_ _ | refine blk_drew ?_ | refine blk_alloc ?_ _)); refine blk_far ?_ NB162_167.out _; (with_reducible repeat (first | refine blk_drewN ?_ _ | refine blk_drew ?_ | refine blk_alloc ?_ _)); refine blk_far ?_ NB162_167.out _; (with_reducible repeat (first | refine blk_drewN ?_ _ | refine blk_drew ?_ | refine blk_alloc ?_ _)); refine blk_far ?_ NB162_167.out _; (with_reducible repeat (first | refine blk_drewN ?_ _ | refine blk_drew ?_ | refine blk_alloc ?_ _)); exact BK162.out⟩, ⟨by repeat (first | (with_reducible first | exact HI167.out | apply IsS36.alloc | apply IsS36.drewN | apply IsS36.drew | apply IsS36.set_0 | apply IsS36.set_1 | apply IsS36.set_2 | apply IsS36.set_3 | refine IsS36.far ?_ NB167_146.out _ | refine IsS36.far ?_ NB167_157.out _ | refine IsS36.far ?_ NB167_162.out _) | exact HI167.out)⟩, ⟨by repeat (first | (with_reducible first | exact HB.out | apply below_alloc | apply pw_below_drewN | apply below_drew1 | refine below_set ?_ (IsS36.ge HI167.out) | refine below_set ?_ GE146.out | refine below_set ?_ GE157.out | refine below_set ?_ GE162.out) | exact HB.out)⟩⟩
          case round =>
            clear H'
            try clear c1
            try clear c2
            try clear p2
            try clear c3
            try clear c4
            try clear c5
            try clear p6
            try clear c8
            try clear c11
            try clear c12
            try clear c13
            try clear c15
            try clear c17
            try clear c18
            try clear c21
            try clear c21b0
            try clear c22
            try clear c23
            try clear c25
            try clear c27
            try clear c27b0
            try clear c28
            try clear c29
            try clear c31
            try clear c33
            try clear c33b0
            try clear c33b1
            try clear c34
            try clear c34b0
            try clear c34b1
            try clear c35
            try clear c36
            try clear c38
            try clear c40
            try clear c41
            try clear c43
            try clear c45
            try clear c46
            try clear c48
            try clear c50
            try clear hcz10_0
            try clear hcz10_1
            try clear hcz10_2
            try clear hcz14_0
            try clear hcz14_1
            try clear hcz14_2
            try clear hcz14_3
            try clear hcz14_4
            try clear hcz14_5
            try clear hcz14_6
            try clear hcz14_7
            try clear hcz14_8
            try clear hcz19_0
            try clear hcz19_1
            try clear hcz19_2
            try clear hcz19_3
            try clear hcz20_0
            try clear hcz20_1
            try clear hcz20_2
            try clear hcz20_3
            try clear hcz20_4
            try clear hcz20_5
            try clear hcz20_6
            try clear hcz20_7
            try clear hcz20_8
            try clear hcz24_0
            try clear hcz24_1
            try clear hcz24_2
            try clear hcz24_3
            try clear hcz26_0
            try clear hcz26_1
            try clear hcz26_2
            try clear hcz26_3
            try clear hcz26_4
            try clear hcz26_5
            try clear hcz26_6
            try clear hcz26_7
            try clear hcz26_8
            try clear hcz30_0
            try clear hcz30_1
            try clear hcz30_2
            try clear hcz30_3
            try clear hcz32_0
            try clear hcz32_1
            try clear hcz32_2
            try clear hcz32_3
            try clear hcz32_4
            try clear hcz32_5
            try clear hcz32_6
            try clear hcz32_7
            try clear hcz32_8
            try clear hcz37_0
            try clear hcz37_1
            try clear hcz37_2
            try clear hcz37_3
            try clear hcz39_0
            try clear hcz39_1
            try clear hcz39_2
            try clear hcz39_3
            try clear hcz39_4
            try clear hcz39_5
            try clear hcz39_6
            try clear hcz39_7
            try clear hcz39_8
            try clear hcz42_0
            try clear hcz42_1
            try clear hcz42_2
            try clear hcz42_3
            try clear hcz44_0
            try clear hcz44_1
            try clear hcz44_2
            try clear hcz44_3
            try clear hcz44_4
            try clear hcz44_5
            try clear hcz44_6
            try clear hcz44_7
            try clear hcz44_8
            try clear hcz47_0
            try clear hcz47_1
            try clear hcz47_2
            try clear hcz47_3
            try clear hcz49_0
            try clear hcz49_1
            try clear hcz49_2
            try clear hcz49_3
            try clear hcz49_4
            try clear hcz49_5
            try clear hcz49_6
            try clear hcz49_7
            try clear hcz49_8
            try clear hcz54_0
            try clear hcz54_1
            try clear hcz54_2
            try clear hcz54_3
            try clear hfz10_0
            try clear hfz10_1
            try clear hfz10_2
            try clear hfz14_0
            try clear hfz14_1
            try clear hfz14_2
            try clear hfz14_3
            try clear hfz14_4
            try clear hfz14_5
            try clear hfz14_6
            try clear hfz14_7
            try clear hfz14_8
            try clear hfz19_0
            try clear hfz19_1
            try clear hfz19_2
            try clear hfz19_3
            try clear hfz20_0
            try clear hfz20_1
            try clear hfz20_2
            try clear hfz20_3
            try clear hfz20_4
            try clear hfz20_5
            try clear hfz20_6
            try clear hfz20_7
            try clear hfz20_8
            try clear hfz24_0
            try clear hfz24_1
            try clear hfz24_2
            try clear hfz24_3
            try clear hfz26_0
            try clear hfz26_1
            try clear hfz26_2
            try clear hfz26_3
            try clear hfz26_4
            try clear hfz26_5
            try clear hfz26_6
            try clear hfz26_7
            try clear hfz26_8
            try clear hfz30_0
            try clear hfz30_1
            try clear hfz30_2
            try clear hfz30_3
            try clear hfz32_0
            try clear hfz32_1
            try clear hfz32_2
            try clear hfz32_3
            try clear hfz32_4
            try clear hfz32_5
            try clear hfz32_6
            try clear hfz32_7
            try clear hfz32_8
            try clear hfz37_0
            try clear hfz37_1
            try clear hfz37_2
            try clear hfz37_3
            try clear hfz39_0
            try clear hfz39_1
            try clear hfz39_2
            try clear hfz39_3
            try clear hfz39_4
            try clear hfz39_5
            try clear hfz39_6
            try clear hfz39_7
            try clear hfz39_8
            try clear hfz42_0
            try clear hfz42_1
            try clear hfz42_2
            try clear hfz42_3
            try clear hfz44_0
            try clear hfz44_1
            try clear hfz44_2
            try clear hfz44_3
            try clear hfz44_4
            try clear hfz44_5
            try clear hfz44_6
            try clear hfz44_7
            try clear hfz44_8
            try clear hfz47_0
            try clear hfz47_1
            try clear hfz47_2
            try clear hfz47_3
            try clear hfz49_0
            try clear hfz49_1
            try clear hfz49_2
            try clear hfz49_3
            try clear hfz49_4
            try clear hfz49_5
            try clear hfz49_6
            try clear hfz49_7
            try clear hfz49_8
            try clear hfz54_0
            try clear hfz54_1
            try clear hfz54_2
            try clear hfz54_3
            try clear p2
            try clear p6
            obtain ⟨x64_2, x168000_2, x168001_2, x168002_2, x168003_2, rfl, HA, HK2, BK146, BK157, BK162, HI167, HB⟩ := hrel
            cases gk with
            | zero => exact absurd HA.out (by simp [weighbridgelaw09_CellUnits.l0])
            | succ k2 =>
              have H := HA.out
              clear HA
              simp only [weighbridgelaw09_CellUnits.l0] at H
              by_cases c55 : x64_2 < (Go.bits .and .i64 a1 127)
              · rw [if_pos c55] at H
                have c55b0 : decide (x64_2 < (Go.bits .and .i64 a1 127)) = true := decide_eq_true c55
                clear c55
                replace H := Option.bind_eq_some_iff.mp H
                obtain ⟨⟨t168, t169, t170, t171, t172⟩, A560, H⟩ := H
                replace H : (if t168 = true then (weighbridgelaw09_CellUnits.l0 k2 (Go.bits .and .i64 a1 127) (wrap64 (x64_2 + 1)) t158 t159 t160 t161 t169 t170 t171 t172) else (some false)) = some r := H
                have A56 := Aside0.mk A560
                clear A560
                by_cases c57 : t168 = true
                · subst c57
                  have H1 : (weighbridgelaw09_CellUnits.l0 k2 (Go.bits .and .i64 a1 127) (wrap64 (x64_2 + 1)) t158 t159 t160 t161 t169 t170 t171 t172) = some r := by rw [if_pos rfl] at H; exact H
                  clear H
                  have H := H1
                  clear H1
                  have H' := Aside0.mk H
                  clear H
                  have hnb58 := NB162_146.out
                  have hnc58 := NB146_162.out
                  have hnb59 := NB162_157.out
                  have hnc59 := NB157_162.out
                  have hnb60 := NB162_167.out
                  have hnc60 := NB167_162.out
                  have hcz61_0 : wr.cell? ⟨gb162, 0, none⟩ = some (.int .i64 t158) := (blk_cell BK162.out 0).trans rfl
                  have hcz61_1 : wr.cell? ⟨gb162, 1, none⟩ = some (.int .i64 t159) := (blk_cell BK162.out 1).trans rfl
                  have hcz61_2 : wr.cell? ⟨gb162, 2, none⟩ = some (.int .i64 t160) := (blk_cell BK162.out 2).trans rfl
                  have hcz61_3 : wr.cell? ⟨gb162, 3, none⟩ = some (.int .i64 t161) := (blk_cell BK162.out 3).trans rfl
                  have hfz61_0 := blk_frozen BK162.out 0
                  have hfz61_1 := blk_frozen BK162.out 1
                  have hfz61_2 := blk_frozen BK162.out 2
                  have hfz61_3 := blk_frozen BK162.out 3
                  go_wp2_with (first | ((with_reducible refine gate_callee (f := 21) rfl ?_); refine goesL_ (some 72) rfl rfl Try.func21 (by kernel_rfl) rfl #[.pointer (some ⟨gb167, 0, none⟩), .agg #[.int .i64 t158, .int .i64 t159, .int .i64 t160, .int .i64 t161], .int .i64 (wrap64 (x64_2 * t158)), .int .i64 1] rfl (by (try simp only [List.map_toArray, List.map_cons, List.map_nil]); first | done | rfl | (simp only [List.length_drop, List.length_take]; rfl)) ?_; (with_reducible refine (cell_Cell_Take.calls k2 gb167 x168000_2 x168001_2 x168002_2 x168003_2 t158 t159 t160 t161 (wrap64 (x64_2 * t158)) 1 true t169 t170 t171 t172 w _ ?side1 ?side2 A56.out).mono ?_); (case side1 => repeat (first | (with_reducible first | exact HI167.out | apply IsS36.alloc | apply IsS36.drewN | apply IsS36.drew | apply IsS36.set_0 | apply IsS36.set_1 | apply IsS36.set_2 | apply IsS36.set_3 | refine IsS36.far ?_ NB167_146.out _ | refine IsS36.far ?_ NB167_157.out _ | refine IsS36.far ?_ NB167_162.out _) | exact HI167.out)); (case side2 => repeat (first | (with_reducible first | exact HB.out | apply below_alloc | apply pw_below_drewN | apply below_drew1 | refine below_set ?_ (IsS36.ge HI167.out) | refine below_set ?_ GE146.out | refine below_set ?_ GE157.out | refine below_set ?_ GE162.out) | exact HB.out)); rintro e w62 ⟨rfl, hi, hb, hk⟩; refine ⟨_, rfl, ?_⟩; have n0_ := Aside0.mk (KeepBut.blk hk (g' := gb146) (o := .cells #[.int .i64 a0_0, .int .i64 a0_1, .int .i64 a0_2] 23 (0, 0)) (by (with_reducible repeat (first | refine blk_drewN ?_ _ | refine blk_drew ?_ | refine blk_alloc ?_ _)); exact BK146.out) NB146_167.out (by simp)); have n1_ := Aside0.mk (KeepBut.blk hk (g' := gb157) (o := .cells #[.int .i64 t148, .int .i64 t149, .int .i64 t150, .int .i64 t151, .int .i64 t152, .int .i64 t153, .int .i64 t154, .int .i64 t155, .bool t156] 28 (0, 0)) (by (with_reducible repeat (first | refine blk_drewN ?_ _ | refine blk_drew ?_ | refine blk_alloc ?_ _)); exact BK157.out) NB157_167.out (by simp)); have n2_ := Aside0.mk (KeepBut.blk hk (g' := gb162) (o := .cells #[.int .i64 t158, .int .i64 t159, .int .i64 t160, .int .i64 t161] 31 (0, 0)) (by (with_reducible repeat (first | refine blk_drewN ?_ _ | refine blk_drew ?_ | refine blk_alloc ?_ _)); exact BK162.out) NB162_167.out (by simp)); have n3_ := Aside0.mk (hb); have n4_ := Aside0.mk (hi); clear BK146; clear BK157; clear BK162; clear HB; clear HI167; have BK146 := n0_; have BK157 := n1_; have BK162 := n2_; have HB := n3_; have HI167 := n4_; clear n0_ n1_ n2_ n3_ n4_; (try clear hb); (try clear hb2); (try clear hk); (try clear hi)))
                  go_roundg k2
                  case measure => have := HJ6.out; have := HK2.out; omega
                  case rel => exact ⟨(wrap64 (x64_2 + 1)), (t169), (t170), (t171), (t172), (by first | rfl | (simp; done) | (simp [*]; done)), H', ⟨by have := HJ6.out; have := HK2.out; omega⟩, ⟨by (with_reducible repeat (first | refine blk_drewN ?_ _ | refine blk_drew ?_ | refine blk_alloc ?_ _)); exact BK146.out⟩, ⟨by (with_reducible repeat (first | refine blk_drewN ?_ _ | refine blk_drew ?_ | refine blk_alloc ?_ _)); exact BK157.out⟩, ⟨by (with_reducible repeat (first | refine blk_drewN ?_ _ | refine blk_drew ?_ | refine blk_alloc ?_ _)); exact BK162.out⟩, ⟨by repeat (first | (with_reducible first | exact HI167.out | apply IsS36.alloc | apply IsS36.drewN | apply IsS36.drew | apply IsS36.set_0 | apply IsS36.set_1 | apply IsS36.set_2 | apply IsS36.set_3 | refine IsS36.far ?_ NB167_146.out _ | refine IsS36.far ?_ NB167_157.out _ | refine IsS36.far ?_ NB167_162.out _) | exact HI167.out)⟩, ⟨by repeat (first | (with_reducible first | exact HB.out | apply below_alloc | apply pw_below_drewN | apply below_drew1 | refine below_set ?_ (IsS36.ge HI167.out) | refine below_set ?_ GE146.out | refine below_set ?_ GE157.out | refine below_set ?_ GE162.out) | exact HB.out)⟩⟩
                · replace c57 := Bool.eq_false_iff.mpr c57
                  subst c57
                  have H1 : (some false) = some r := by rw [if_neg (show ¬ (false = true) by decide)] at H; exact H
                  clear H
                  have H := H1
                  clear H1
                  exact absurd (Option.some.inj H) (by rw [hr_.out]; decide)
              · rw [if_neg c55] at H
                have c55b0 : decide (x64_2 < (Go.bits .and .i64 a1 127)) = false := decide_eq_false c55
                clear c55
                obtain rfl := Option.some.inj H
                go_wp2
                go_ret
                exact ⟨by first | rfl | (simp [errW_none, errW_some] <;> rfl) | (simp [*, errW_none, errW_some] <;> rfl), by repeat (first | (with_reducible first | exact HB.out | apply below_alloc | apply pw_below_drewN | apply below_drew1 | refine below_set ?_ (IsS36.ge HI167.out) | refine below_set ?_ GE146.out | refine below_set ?_ GE157.out | refine below_set ?_ GE162.out) | exact HB.out)⟩
  · replace c4 := Bool.eq_false_iff.mpr c4
    subst c4
    have H1 : (some false) = some r := by rw [if_neg (show ¬ (false = true) by decide)] at H; exact H
    clear H
    have H := H1
    clear H1
    exact absurd (Option.some.inj H) (by rw [hr_.out]; decide)

/-- THE ONE PURE STATEMENT of weighbridgelaw09_CellUnits. -/
def weighbridgelaw09_CellUnits.Pure : Prop := ∀ (a0_0 : Int) (a0_1 : Int) (a0_2 : Int) (a1 : Int), (Lit.int .i64 a0_0).wf = true → (Lit.int .i64 a0_1).wf = true → (Lit.int .i64 a0_2).wf = true → (Lit.int .i64 a1).wf = true → ∃ k, weighbridgelaw09_CellUnits.f k a0_0 a0_1 a0_2 a1 = some true
theorem weighbridgelaw09_CellUnits.walk (P : weighbridgelaw09_CellUnits.Pure) (a0_0 : Int) (a0_1 : Int) (a0_2 : Int) (a1 : Int) (w : World) (g0 : (Lit.int .i64 a0_0).wf = true) (g1 : (Lit.int .i64 a0_1).wf = true) (g2 : (Lit.int .i64 a0_2).wf = true) (g3 : (Lit.int .i64 a1).wf = true) :
    Calls Try.prog 8 #[.agg #[.int .i64 a0_0, .int .i64 a0_1, .int .i64 a0_2], .int .i64 a1] w fun e w' => e = .returned (.bool true) ∧ Below w.heap.size w w' := by
  obtain ⟨k, h⟩ := P a0_0 a0_1 a0_2 a1 g0 g1 g2 g3
  refine (weighbridgelaw09_CellUnits.calls k a0_0 a0_1 a0_2 a1 true w  (Aside0.mk rfl) h).mono ?_
  rintro e w' ⟨rfl, hd⟩
  exact ⟨rfl, hd⟩

end Go.Proofs.Ytdnimnlnicnjnaa.QCellUnits
