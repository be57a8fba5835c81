-- Laid by a program of this session (wip/myprint.py, over the kit's print.py): a walk of the code and what it computes.
import Derived.Test.YtbkngofbedgecaaQClockRunsx0
import Derived.Test.YtbkngofbedgecaaQClockRunsx1
namespace Go.Proofs.Ytbkngofbedgecaa.QClockRuns
open Go.RowKit Go.Proofs.YtbkngofbedgecaaW.PrintWords Go.Proofs.YtbkngofbedgecaaW.PrintLast Go.Proofs.YtbkngofbedgecaaW.PrintMore
attribute [local go_sem] max2_int min2_int max_two min_two max_three min_three max_four min_four   -- for this text's walks alone
set_option linter.unusedVariables false
set_option linter.unusedSimpArgs false

/-! ### weighbridgelaw11_ClockRuns: function 5 -/
mutual
def weighbridgelaw11_ClockRuns.l0 : Nat → List Bool → Int → Int → Int → Bool → Bool → List Int → Int → Int → Int → Int → Bool → Bool → Option (Bool)
  | 0, _, _, _, _, _, _, _, _, _, _, _, _, _ => none
  | k + 1, x1, x2, x8, x9, x10, x11, x22, x23, x24, x137000, x137001, x137002, x137003 => if x24 < x23 then (if 0 ≤ x24 then (if x24 < (x22.length : Int) then (if x24 < (x1.length : Int) then (weighbridgelaw11_ClockRuns.j1 k x1 x2 x8 x9 x10 x11 (rd x22 x24) x22 x23 x24 (rdOf false x1 x24) x137000 x137001 x137002 x137003) else (weighbridgelaw11_ClockRuns.j1 k x1 x2 x8 x9 x10 x11 (rd x22 x24) x22 x23 x24 false x137000 x137001 x137002 x137003)) else (none)) else (none)) else (some true)
def weighbridgelaw11_ClockRuns.j1 : Nat → List Bool → Int → Int → Int → Bool → Bool → Int → List Int → Int → Int → Bool → Int → Int → Bool → Bool → Option (Bool)
  | 0, _, _, _, _, _, _, _, _, _, _, _, _, _, _, _ => none
  | k + 1, x1, x2, x8, x9, x10, x11, x13, x22, x23, x24, x38, x137000, x137001, x137002, x137003 => if x38 = true then ((clock_Clock_Restart.f x137000 x137001 x137002 x137003).bind fun bt139 => ((clock_Clock_Now.f bt139.1 bt139.2.1 bt139.2.2.1 bt139.2.2.2).bind fun bt143 => (if bt143.1 = 0 then ((clock_Clock_Held.f bt143.2.1 bt143.2.2.1 bt143.2.2.2.1 bt143.2.2.2.2 x2).bind fun bt148 => (if bt148.1 = x2 then (weighbridgelaw11_ClockRuns.j2 k x1 x2 0 0 true true x13 x22 x23 x24 bt148.2.1 bt148.2.2.1 bt148.2.2.2.1 bt148.2.2.2.2) else (some false))) else (some false)))) else (weighbridgelaw11_ClockRuns.j2 k x1 x2 x8 x9 x10 x11 x13 x22 x23 x24 x137000 x137001 x137002 x137003)
def weighbridgelaw11_ClockRuns.j2 : Nat → List Bool → Int → Int → Int → Bool → Bool → Int → List Int → Int → Int → Int → Int → Bool → Bool → Option (Bool)
  | 0, _, _, _, _, _, _, _, _, _, _, _, _, _, _ => none
  | k + 1, x1, x2, x8, x9, x10, x11, x13, x22, x23, x24, x137000, x137001, x137002, x137003 => if x11 = true then (weighbridgelaw11_ClockRuns.j3 k x1 x2 (mx x8 x13) (mx x8 x13) x10 false x13 x22 x23 x24 x137000 x137001 x137002 x137003) else (weighbridgelaw11_ClockRuns.j3 k x1 x2 (mx x8 x13) x9 x10 x11 x13 x22 x23 x24 x137000 x137001 x137002 x137003)
def weighbridgelaw11_ClockRuns.j3 : Nat → List Bool → Int → Int → Int → Bool → Bool → Int → List Int → Int → Int → Int → Int → Bool → Bool → Option (Bool)
  | 0, _, _, _, _, _, _, _, _, _, _, _, _, _, _ => none
  | k + 1, x1, x2, x8, x9, x10, x11, x13, x22, x23, x24, x137000, x137001, x137002, x137003 => if x10 = true then (weighbridgelaw11_ClockRuns.j4 k x1 x2 x8 x9 x10 x11 x13 0 x22 x23 x24 (decide ((wrap64 (x8 - x9)) < x2)) x137000 x137001 x137002 x137003) else (weighbridgelaw11_ClockRuns.j4 k x1 x2 x8 x9 x10 x11 x13 0 x22 x23 x24 false x137000 x137001 x137002 x137003)
def weighbridgelaw11_ClockRuns.j4 : Nat → List Bool → Int → Int → Int → Bool → Bool → Int → Int → List Int → Int → Int → Bool → Int → Int → Bool → Bool → Option (Bool)
  | 0, _, _, _, _, _, _, _, _, _, _, _, _, _, _, _, _ => none
  | k + 1, x1, x2, x8, x9, x10, x11, x13, x14, x22, x23, x24, x60, x137000, x137001, x137002, x137003 => if x60 = true then (weighbridgelaw11_ClockRuns.j5 k x1 x2 x8 x9 x10 x11 x13 (wrap64 ((wrap64 (x9 - x8)) + x2)) x22 x23 x24 x137000 x137001 x137002 x137003) else (weighbridgelaw11_ClockRuns.j5 k x1 x2 x8 x9 x10 x11 x13 x14 x22 x23 x24 x137000 x137001 x137002 x137003)
def weighbridgelaw11_ClockRuns.j5 : Nat → List Bool → Int → Int → Int → Bool → Bool → Int → Int → List Int → Int → Int → Int → Int → Bool → Bool → Option (Bool)
  | 0, _, _, _, _, _, _, _, _, _, _, _, _, _, _, _ => none
  | k + 1, x1, x2, x8, x9, x10, x11, x13, x14, x22, x23, x24, x137000, x137001, x137002, x137003 => (clock_Clock_Read.f x137000 x137001 x137002 x137003 x13).bind fun bt153 => (if bt153.1 = x8 then ((clock_Clock_Now.f bt153.2.1 bt153.2.2.1 bt153.2.2.2.1 bt153.2.2.2.2).bind fun bt158 => (if bt158.1 = x8 then ((clock_Clock_Over.f bt158.2.1 bt158.2.2.1 bt158.2.2.2.1 bt158.2.2.2.2).bind fun bt163 => (if (bt163.1 == (decide (x8 ≥ 4611686018427387904))) = true then (if x9 < 4611686018427387904 then ((clock_Clock_Held.f bt163.2.1 bt163.2.2.1 bt163.2.2.2.1 bt163.2.2.2.2 x2).bind fun bt168 => (if bt168.1 = x14 then (weighbridgelaw11_ClockRuns.l0 k x1 x2 x8 x9 x10 x11 x22 x23 (wrap64 (x24 + 1)) bt168.2.1 bt168.2.2.1 bt168.2.2.2.1 bt168.2.2.2.2) else (some false))) else (weighbridgelaw11_ClockRuns.l0 k x1 x2 x8 x9 x10 x11 x22 x23 (wrap64 (x24 + 1)) bt163.2.1 bt163.2.2.1 bt163.2.2.2.1 bt163.2.2.2.2)) else (some false))) else (some false))) else (some false))
end
def weighbridgelaw11_ClockRuns.f (k : Nat) (l0 : List Int) (l1 : List Bool) (a2 : Int) : Option (Bool) := (weighbridgelaw11_fit.f).bind fun t135 => (if t135 = true then (if (l0.length : Int) > 300 then (some true) else (weighbridgelaw11_ClockRuns.l0 k l1 (Go.bits .and .i64 a2 2199023255551) 0 0 false true l0 (l0.length : Int) 0 0 0 false false)) else (some false))
theorem weighbridgelaw11_ClockRuns.mono_l : ∀ k, (∀ y0 y1 y2 y3 y4 y5 y6 y7 y8 y9 y10 y11 y12, LeO (weighbridgelaw11_ClockRuns.l0 k y0 y1 y2 y3 y4 y5 y6 y7 y8 y9 y10 y11 y12) (weighbridgelaw11_ClockRuns.l0 (k + 1) y0 y1 y2 y3 y4 y5 y6 y7 y8 y9 y10 y11 y12)) ∧ (∀ y0 y1 y2 y3 y4 y5 y6 y7 y8 y9 y10 y11 y12 y13 y14, LeO (weighbridgelaw11_ClockRuns.j1 k y0 y1 y2 y3 y4 y5 y6 y7 y8 y9 y10 y11 y12 y13 y14) (weighbridgelaw11_ClockRuns.j1 (k + 1) y0 y1 y2 y3 y4 y5 y6 y7 y8 y9 y10 y11 y12 y13 y14)) ∧ (∀ y0 y1 y2 y3 y4 y5 y6 y7 y8 y9 y10 y11 y12 y13, LeO (weighbridgelaw11_ClockRuns.j2 k y0 y1 y2 y3 y4 y5 y6 y7 y8 y9 y10 y11 y12 y13) (weighbridgelaw11_ClockRuns.j2 (k + 1) y0 y1 y2 y3 y4 y5 y6 y7 y8 y9 y10 y11 y12 y13)) ∧ (∀ y0 y1 y2 y3 y4 y5 y6 y7 y8 y9 y10 y11 y12 y13, LeO (weighbridgelaw11_ClockRuns.j3 k y0 y1 y2 y3 y4 y5 y6 y7 y8 y9 y10 y11 y12 y13) (weighbridgelaw11_ClockRuns.j3 (k + 1) y0 y1 y2 y3 y4 y5 y6 y7 y8 y9 y10 y11 y12 y13)) ∧ (∀ y0 y1 y2 y3 y4 y5 y6 y7 y8 y9 y10 y11 y12 y13 y14 y15, LeO (weighbridgelaw11_ClockRuns.j4 k y0 y1 y2 y3 y4 y5 y6 y7 y8 y9 y10 y11 y12 y13 y14 y15) (weighbridgelaw11_ClockRuns.j4 (k + 1) y0 y1 y2 y3 y4 y5 y6 y7 y8 y9 y10 y11 y12 y13 y14 y15)) ∧ (∀ y0 y1 y2 y3 y4 y5 y6 y7 y8 y9 y10 y11 y12 y13 y14, LeO (weighbridgelaw11_ClockRuns.j5 k y0 y1 y2 y3 y4 y5 y6 y7 y8 y9 y10 y11 y12 y13 y14) (weighbridgelaw11_ClockRuns.j5 (k + 1) y0 y1 y2 y3 y4 y5 y6 y7 y8 y9 y10 y11 y12 y13 y14))
  | 0 => ⟨fun _ _ _ _ _ _ _ _ _ _ _ _ _ r h => by simp [weighbridgelaw11_ClockRuns.l0] at h, fun _ _ _ _ _ _ _ _ _ _ _ _ _ _ _ r h => by simp [weighbridgelaw11_ClockRuns.j1] at h, fun _ _ _ _ _ _ _ _ _ _ _ _ _ _ r h => by simp [weighbridgelaw11_ClockRuns.j2] at h, fun _ _ _ _ _ _ _ _ _ _ _ _ _ _ r h => by simp [weighbridgelaw11_ClockRuns.j3] at h, fun _ _ _ _ _ _ _ _ _ _ _ _ _ _ _ _ r h => by simp [weighbridgelaw11_ClockRuns.j4] at h, fun _ _ _ _ _ _ _ _ _ _ _ _ _ _ _ r h => by simp [weighbridgelaw11_ClockRuns.j5] at h⟩
  | k + 1 => by
    obtain ⟨ih0, ih1, ih2, ih3, ih4, ih5⟩ := weighbridgelaw11_ClockRuns.mono_l k
    refine ⟨?_, ?_, ?_, ?_, ?_, ?_⟩
    · intro y0 y1 y2 y3 y4 y5 y6 y7 y8 y9 y10 y11 y12
      unfold weighbridgelaw11_ClockRuns.l0
      repeat' first
      | (with_reducible exact ih0 _ _ _ _ _ _ _ _ _ _ _ _ _)
      | (with_reducible exact ih1 _ _ _ _ _ _ _ _ _ _ _ _ _ _ _)
      | (with_reducible exact ih2 _ _ _ _ _ _ _ _ _ _ _ _ _ _)
      | (with_reducible exact ih3 _ _ _ _ _ _ _ _ _ _ _ _ _ _)
      | (with_reducible exact ih4 _ _ _ _ _ _ _ _ _ _ _ _ _ _ _ _)
      | (with_reducible exact ih5 _ _ _ _ _ _ _ _ _ _ _ _ _ _ _)
      | (with_reducible exact LeO.refl _)
      | (with_reducible exact LeO.none _)
      | (with_reducible refine LeO.ite ?_ ?_)
      | (with_reducible refine LeO.bind ?_ (fun _ => ?_))
      | exact ih0 _ _ _ _ _ _ _ _ _ _ _ _ _
      | exact ih1 _ _ _ _ _ _ _ _ _ _ _ _ _ _ _
      | exact ih2 _ _ _ _ _ _ _ _ _ _ _ _ _ _
      | exact ih3 _ _ _ _ _ _ _ _ _ _ _ _ _ _
      | exact ih4 _ _ _ _ _ _ _ _ _ _ _ _ _ _ _ _
      | exact ih5 _ _ _ _ _ _ _ _ _ _ _ _ _ _ _
      | exact LeO.none _
      | refine LeO.ite ?_ ?_
      | refine LeO.bind ?_ (fun _ => ?_)
    · intro y0 y1 y2 y3 y4 y5 y6 y7 y8 y9 y10 y11 y12 y13 y14
      unfold weighbridgelaw11_ClockRuns.j1
      repeat' first
      | (with_reducible exact ih0 _ _ _ _ _ _ _ _ _ _ _ _ _)
      | (with_reducible exact ih1 _ _ _ _ _ _ _ _ _ _ _ _ _ _ _)
      | (with_reducible exact ih2 _ _ _ _ _ _ _ _ _ _ _ _ _ _)
      | (with_reducible exact ih3 _ _ _ _ _ _ _ _ _ _ _ _ _ _)
      | (with_reducible exact ih4 _ _ _ _ _ _ _ _ _ _ _ _ _ _ _ _)
      | (with_reducible exact ih5 _ _ _ _ _ _ _ _ _ _ _ _ _ _ _)
      | (with_reducible exact LeO.refl _)
      | (with_reducible exact LeO.none _)
      | (with_reducible refine LeO.ite ?_ ?_)
      | (with_reducible refine LeO.bind ?_ (fun _ => ?_))
      | exact ih0 _ _ _ _ _ _ _ _ _ _ _ _ _
      | exact ih1 _ _ _ _ _ _ _ _ _ _ _ _ _ _ _
      | exact ih2 _ _ _ _ _ _ _ _ _ _ _ _ _ _
      | exact ih3 _ _ _ _ _ _ _ _ _ _ _ _ _ _
      | exact ih4 _ _ _ _ _ _ _ _ _ _ _ _ _ _ _ _
      | exact ih5 _ _ _ _ _ _ _ _ _ _ _ _ _ _ _
      | exact LeO.none _
      | refine LeO.ite ?_ ?_
      | refine LeO.bind ?_ (fun _ => ?_)
    · intro y0 y1 y2 y3 y4 y5 y6 y7 y8 y9 y10 y11 y12 y13
      unfold weighbridgelaw11_ClockRuns.j2
      repeat' first
      | (with_reducible exact ih0 _ _ _ _ _ _ _ _ _ _ _ _ _)
      | (with_reducible exact ih1 _ _ _ _ _ _ _ _ _ _ _ _ _ _ _)
      | (with_reducible exact ih2 _ _ _ _ _ _ _ _ _ _ _ _ _ _)
      | (with_reducible exact ih3 _ _ _ _ _ _ _ _ _ _ _ _ _ _)
      | (with_reducible exact ih4 _ _ _ _ _ _ _ _ _ _ _ _ _ _ _ _)
      | (with_reducible exact ih5 _ _ _ _ _ _ _ _ _ _ _ _ _ _ _)
      | (with_reducible exact LeO.refl _)
      | (with_reducible exact LeO.none _)
      | (with_reducible refine LeO.ite ?_ ?_)
      | (with_reducible refine LeO.bind ?_ (fun _ => ?_))
      | exact ih0 _ _ _ _ _ _ _ _ _ _ _ _ _
      | exact ih1 _ _ _ _ _ _ _ _ _ _ _ _ _ _ _
      | exact ih2 _ _ _ _ _ _ _ _ _ _ _ _ _ _
      | exact ih3 _ _ _ _ _ _ _ _ _ _ _ _ _ _
      | exact ih4 _ _ _ _ _ _ _ _ _ _ _ _ _ _ _ _
      | exact ih5 _ _ _ _ _ _ _ _ _ _ _ _ _ _ _
      | exact LeO.none _
      | refine LeO.ite ?_ ?_
      | refine LeO.bind ?_ (fun _ => ?_)
    · intro y0 y1 y2 y3 y4 y5 y6 y7 y8 y9 y10 y11 y12 y13
      unfold weighbridgelaw11_ClockRuns.j3
      repeat' first
      | (with_reducible exact ih0 _ _ _ _ _ _ _ _ _ _ _ _ _)
      | (with_reducible exact ih1 _ _ _ _ _ _ _ _ _ _ _ _ _ _ _)
      | (with_reducible exact ih2 _ _ _ _ _ _ _ _ _ _ _ _ _ _)
      | (with_reducible exact ih3 _ _ _ _ _ _ _ _ _ _ _ _ _ _)
      | (with_reducible exact ih4 _ _ _ _ _ _ _ _ _ _ _ _ _ _ _ _)
      | (with_reducible exact ih5 _ _ _ _ _ _ _ _ _ _ _ _ _ _ _)
      | (with_reducible exact LeO.refl _)
      | (with_reducible exact LeO.none _)
      | (with_reducible refine LeO.ite ?_ ?_)
      | (with_reducible refine LeO.bind ?_ (fun _ => ?_))
      | exact ih0 _ _ _ _ _ _ _ _ _ _ _ _ _
      | exact ih1 _ _ _ _ _ _ _ _ _ _ _ _ _ _ _
      | exact ih2 _ _ _ _ _ _ _ _ _ _ _ _ _ _
      | exact ih3 _ _ _ _ _ _ _ _ _ _ _ _ _ _
      | exact ih4 _ _ _ _ _ _ _ _ _ _ _ _ _ _ _ _
      | exact ih5 _ _ _ _ _ _ _ _ _ _ _ _ _ _ _
      | exact LeO.none _
      | refine LeO.ite ?_ ?_
      | refine LeO.bind ?_ (fun _ => ?_)
    · intro y0 y1 y2 y3 y4 y5 y6 y7 y8 y9 y10 y11 y12 y13 y14 y15
      unfold weighbridgelaw11_ClockRuns.j4
      repeat' first
      | (with_reducible exact ih0 _ _ _ _ _ _ _ _ _ _ _ _ _)
      | (with_reducible exact ih1 _ _ _ _ _ _ _ _ _ _ _ _ _ _ _)
      | (with_reducible exact ih2 _ _ _ _ _ _ _ _ _ _ _ _ _ _)
      | (with_reducible exact ih3 _ _ _ _ _ _ _ _ _ _ _ _ _ _)
      | (with_reducible exact ih4 _ _ _ _ _ _ _ _ _ _ _ _ _ _ _ _)
      | (with_reducible exact ih5 _ _ _ _ _ _ _ _ _ _ _ _ _ _ _)
      | (with_reducible exact LeO.refl _)
      | (with_reducible exact LeO.none _)
      | (with_reducible refine LeO.ite ?_ ?_)
      | (with_reducible refine LeO.bind ?_ (fun _ => ?_))
      | exact ih0 _ _ _ _ _ _ _ _ _ _ _ _ _
      | exact ih1 _ _ _ _ _ _ _ _ _ _ _ _ _ _ _
      | exact ih2 _ _ _ _ _ _ _ _ _ _ _ _ _ _
      | exact ih3 _ _ _ _ _ _ _ _ _ _ _ _ _ _
      | exact ih4 _ _ _ _ _ _ _ _ _ _ _ _ _ _ _ _
      | exact ih5 _ _ _ _ _ _ _ _ _ _ _ _ _ _ _
      | exact LeO.none _
      | refine LeO.ite ?_ ?_
      | refine LeO.bind ?_ (fun _ => ?_)
    · intro y0 y1 y2 y3 y4 y5 y6 y7 y8 y9 y10 y11 y12 y13 y14
      unfold weighbridgelaw11_ClockRuns.j5
      repeat' first
      | (with_reducible exact ih0 _ _ _ _ _ _ _ _ _ _ _ _ _)
      | (with_reducible exact ih1 _ _ _ _ _ _ _ _ _ _ _ _ _ _ _)
      | (with_reducible exact ih2 _ _ _ _ _ _ _ _ _ _ _ _ _ _)
      | (with_reducible exact ih3 _ _ _ _ _ _ _ _ _ _ _ _ _ _)
      | (with_reducible exact ih4 _ _ _ _ _ _ _ _ _ _ _ _ _ _ _ _)
      | (with_reducible exact ih5 _ _ _ _ _ _ _ _ _ _ _ _ _ _ _)
      | (with_reducible exact LeO.refl _)
      | (with_reducible exact LeO.none _)
      | (with_reducible refine LeO.ite ?_ ?_)
      | (with_reducible refine LeO.bind ?_ (fun _ => ?_))
      | exact ih0 _ _ _ _ _ _ _ _ _ _ _ _ _
      | exact ih1 _ _ _ _ _ _ _ _ _ _ _ _ _ _ _
      | exact ih2 _ _ _ _ _ _ _ _ _ _ _ _ _ _
      | exact ih3 _ _ _ _ _ _ _ _ _ _ _ _ _ _
      | exact ih4 _ _ _ _ _ _ _ _ _ _ _ _ _ _ _ _
      | exact ih5 _ _ _ _ _ _ _ _ _ _ _ _ _ _ _
      | exact LeO.none _
      | refine LeO.ite ?_ ?_
      | refine LeO.bind ?_ (fun _ => ?_)
theorem weighbridgelaw11_ClockRuns.mono : ∀ a0 a1 a2 k, LeO (weighbridgelaw11_ClockRuns.f k a0 a1 a2) (weighbridgelaw11_ClockRuns.f (k + 1) a0 a1 a2) := by
  intro a0 a1 a2 k
  obtain ⟨ih0, ih1, ih2, ih3, ih4, ih5⟩ := weighbridgelaw11_ClockRuns.mono_l k
  unfold weighbridgelaw11_ClockRuns.f
  repeat' first
      | (with_reducible exact ih0 _ _ _ _ _ _ _ _ _ _ _ _ _)
      | (with_reducible exact ih1 _ _ _ _ _ _ _ _ _ _ _ _ _ _ _)
      | (with_reducible exact ih2 _ _ _ _ _ _ _ _ _ _ _ _ _ _)
      | (with_reducible exact ih3 _ _ _ _ _ _ _ _ _ _ _ _ _ _)
      | (with_reducible exact ih4 _ _ _ _ _ _ _ _ _ _ _ _ _ _ _ _)
      | (with_reducible exact ih5 _ _ _ _ _ _ _ _ _ _ _ _ _ _ _)
      | (with_reducible exact LeO.refl _)
      | (with_reducible exact LeO.none _)
      | (with_reducible refine LeO.ite ?_ ?_)
      | (with_reducible refine LeO.bind ?_ (fun _ => ?_))
      | exact ih0 _ _ _ _ _ _ _ _ _ _ _ _ _
      | exact ih1 _ _ _ _ _ _ _ _ _ _ _ _ _ _ _
      | exact ih2 _ _ _ _ _ _ _ _ _ _ _ _ _ _
      | exact ih3 _ _ _ _ _ _ _ _ _ _ _ _ _ _
      | exact ih4 _ _ _ _ _ _ _ _ _ _ _ _ _ _ _ _
      | exact ih5 _ _ _ _ _ _ _ _ _ _ _ _ _ _ _
      | exact LeO.none _
      | refine LeO.ite ?_ ?_
      | refine LeO.bind ?_ (fun _ => ?_)
set_option maxHeartbeats 8000000 in
set_option maxRecDepth 100000 in
theorem weighbridgelaw11_ClockRuns.calls (k : Nat) (A0 : Option Addr) (c0 : Nat) (l0 : List Int) (A1 : Option Addr) (c1 : Nat) (l1 : List Bool) (a2 : Int) (r : Bool) (w : World) (hr0 : Kd.C (Kd.int .i64) w A0 l0.length l0) (hc0 : l0.length ≤ c0) (hr1 : Kd.C Kd.bool w A1 l1.length l1) (hc1 : l1.length ≤ c1) (h : weighbridgelaw11_ClockRuns.f k l0 l1 a2 = some r) :
    Calls Try.prog 5 #[.slice A0 l0.length c0, .slice A1 l1.length c1, .int .i64 a2] w fun e w' => e = .returned (.bool r) ∧ Below w.heap.size w w' := by
  have hu25 := Try.underlying25
  have HR0 := Aside0.mk hr0
  have HC0 := Aside0.mk hc0
  clear hr0 hc0
  have HR1 := Aside0.mk hr1
  have HC1 := Aside0.mk hc1
  clear hr1 hc1
  have HB := Aside0.mk (Below.refl w.heap.size w)
  have H : ((weighbridgelaw11_fit.f).bind fun t135 => (if t135 = true then (if (l0.length : Int) > 300 then (some true) else (weighbridgelaw11_ClockRuns.l0 k l1 (Go.bits .and .i64 a2 2199023255551) 0 0 false true l0 (l0.length : Int) 0 0 0 false false)) else (some false))) = some r := h
  clear h
  replace H := Option.bind_eq_some_iff.mp H
  obtain ⟨t135, A40, H⟩ := H
  replace H : (if t135 = true then (if (l0.length : Int) > 300 then (some true) else (weighbridgelaw11_ClockRuns.l0 k l1 (Go.bits .and .i64 a2 2199023255551) 0 0 false true l0 (l0.length : Int) 0 0 0 false false)) else (some false)) = some r := H
  have A4 := Aside0.mk A40
  clear A40
  by_cases c5 : t135 = true
  · subst c5
    have H1 : (if (l0.length : Int) > 300 then (some true) else (weighbridgelaw11_ClockRuns.l0 k l1 (Go.bits .and .i64 a2 2199023255551) 0 0 false true l0 (l0.length : Int) 0 0 0 false false)) = some r := by rw [if_pos rfl] at H; exact H
    clear H
    have H := H1
    clear H1
    by_cases c6 : (l0.length : Int) > 300
    · rw [if_pos c6] at H
      have c6b0 : decide (300 < (l0.length : Int)) = true := decide_eq_true c6
      have c6b1 : decide (300 < l0.length) = true := decide_eq_true (by omega)
      clear c6
      obtain rfl := Option.some.inj H
      go_enter Try.func5, Try.ntmps5
      go_wp2_with (first | ((with_reducible refine gate_callee (f := 7) rfl ?_); refine goesL_ (some 15) rfl rfl Try.func7 (by kernel_rfl) rfl #[] rfl (by (try simp only [List.map_toArray, List.map_cons, List.map_nil]); first | done | rfl | (simp only [List.length_drop, List.length_take]; rfl)) ?_; (with_reducible refine (weighbridgelaw11_fit.calls  true _ A4.out).mono ?_); rintro e w7 ⟨rfl, hb⟩; refine ⟨_, rfl, ?_⟩; have n0_ := Aside0.mk (below_step (by repeat (first | (with_reducible first | exact HB.out | apply below_alloc | apply pw_below_drewN | apply below_drew1) | exact HB.out)) hb); clear HB; have HB := n0_; clear n0_; (try clear hb); (try clear hb2); (try clear hk); (try clear hi)))
      go_ret
      exact ⟨by first | rfl | (simp [errW_none, errW_some] <;> rfl) | (simp [*, errW_none, errW_some] <;> rfl), by repeat (first | (with_reducible first | exact HB.out | apply below_alloc | apply pw_below_drewN | apply below_drew1) | exact HB.out)⟩
    · rw [if_neg c6] at H
      have c6b0 : decide (300 < (l0.length : Int)) = false := decide_eq_false c6
      have c6b1 : decide (300 < l0.length) = false := decide_eq_false (by omega)
      clear c6
      have H' := Aside0.mk H
      clear H
      go_enter Try.func5, Try.ntmps5
      go_wp2_with (first | ((with_reducible refine gate_callee (f := 7) rfl ?_); refine goesL_ (some 15) rfl rfl Try.func7 (by kernel_rfl) rfl #[] rfl (by (try simp only [List.map_toArray, List.map_cons, List.map_nil]); first | done | rfl | (simp only [List.length_drop, List.length_take]; rfl)) ?_; (with_reducible refine (weighbridgelaw11_fit.calls  true _ A4.out).mono ?_); rintro e w8 ⟨rfl, hb⟩; refine ⟨_, rfl, ?_⟩; have n0_ := Aside0.mk (below_step (by repeat (first | (with_reducible first | exact HB.out | apply below_alloc | apply pw_below_drewN | apply below_drew1) | exact HB.out)) hb); clear HB; have HB := n0_; clear n0_; (try clear hb); (try clear hb2); (try clear hk); (try clear hi)) | ((with_reducible refine gate_dst (N := 7) rfl ?_); refine box_event ?hg (N := 7) ?hd (cs := #[.int .i64 0, .int .i64 0, .bool false, .bool false]) (t := 25) ?hr ?_; (case hd => rfl); (case hg => rfl); (case hr => first | (go_simp; done) | (go_simp; rfl)); intro gb136 hg w9 hbox hb; have n0_ := Aside0.mk (below_step (by repeat (first | (with_reducible first | exact HB.out | apply below_alloc | apply pw_below_drewN | apply below_drew1) | exact HB.out)) hb); have n1_ := Aside0.mk ((by rw [hg]; exact (below_size (by repeat (first | (with_reducible first | exact HB.out | apply below_alloc | apply pw_below_drewN | apply below_drew1) | exact HB.out))) : w.heap.size ≤ gb136)); have n2_ := Aside0.mk ((by rw [hg]; exact (below_size (by repeat (first | (with_reducible first | exact HB.out | apply below_alloc | apply pw_below_drewN | apply below_drew1) | exact HB.out))) : w.heap.size ≤ gb136)); have n3_ := Aside0.mk ((⟨hbox, by rw [hg]; exact (below_size (by repeat (first | (with_reducible first | exact HB.out | apply below_alloc | apply pw_below_drewN | apply below_drew1) | exact HB.out)))⟩ : IsS25 w w9 gb136 0 0 false false)); clear HB; have HB := n0_; have GW136 := n1_; have GE136 := n2_; have HI136 := n3_; clear n0_ n1_ n2_ n3_; clear hb hbox hg))
      go_loopg [8, 9, 10, 11, 24] k (fun kq v8 v9 v10 v11 v24 w' => ∃ (x8_1 : Int) (x9_1 : Int) (x10_1 : Bool) (x11_1 : Bool) (x24_1 : Int) (x137000_1 : Int) (x137001_1 : Int) (x137002_1 : Bool) (x137003_1 : Bool), v8 = .int .i64 x8_1 ∧ v9 = .int .i64 x9_1 ∧ v10 = .bool x10_1 ∧ v11 = .bool x11_1 ∧ v24 = .int .i64 x24_1 ∧ Aside0 (weighbridgelaw11_ClockRuns.l0 kq l1 (Go.bits .and .i64 a2 2199023255551) x8_1 x9_1 x10_1 x11_1 l0 (l0.length : Int) x24_1 x137000_1 x137001_1 x137002_1 x137003_1 = some r) ∧ Aside0 (kq ≤ k) ∧ Aside0 (IsS25 w w' gb136 x137000_1 x137001_1 x137002_1 x137003_1) ∧ Aside0 (Below w.heap.size w w'))
      case atStart => exact ⟨(0), (0), (false), (true), (0), (0), (0), (false), (false), (by first | rfl | (simp; done) | (simp [*]; done)), (by first | rfl | (simp; done) | (simp [*]; done)), (by first | rfl | (simp; done) | (simp [*]; done)), (by first | rfl | (simp; done) | (simp [*]; done)), (by first | rfl | (simp; done) | (simp [*]; done)), H', ⟨Nat.le_refl _⟩, ⟨by repeat (first | (with_reducible first | exact HI136.out | apply IsS25.alloc | apply IsS25.drewN | apply IsS25.drew | apply IsS25.set_0 | apply IsS25.set_1 | apply IsS25.set_2 | apply IsS25.set_3) | exact HI136.out)⟩, ⟨by repeat (first | (with_reducible first | exact HB.out | apply below_alloc | apply pw_below_drewN | apply below_drew1 | refine below_set ?_ (IsS25.ge HI136.out)) | exact HB.out)⟩⟩
      case round =>
        clear H'
        try clear c1
        try clear p2
        try clear c5
        try clear c6
        try clear c6b0
        try clear c6b1
        try clear c7
        obtain ⟨x8_1, x9_1, x10_1, x11_1, x24_1, x137000_1, x137001_1, x137002_1, x137003_1, rfl, rfl, rfl, rfl, rfl, HA, HK1, HI136, HB⟩ := hrel
        cases gk with
        | zero => exact absurd HA.out (by simp [weighbridgelaw11_ClockRuns.l0])
        | succ k1 =>
          have H := HA.out
          clear HA
          simp only [weighbridgelaw11_ClockRuns.l0] at H
          by_cases c10 : x24_1 < (l0.length : Int)
          · rw [if_pos c10] at H
            have c10b0 : decide (x24_1 < (l0.length : Int)) = true := decide_eq_true c10
            clear c10
            by_cases c11 : 0 ≤ x24_1
            · rw [if_pos c11] at H
              have c11b0 : decide (0 ≤ x24_1) = true := decide_eq_true c11
              clear c11
              by_cases c12 : x24_1 < (l0.length : Int)
              · rw [if_pos c12] at H
                have c12b0 : decide (x24_1 < (l0.length : Int)) = true := decide_eq_true c12
                clear c12
                have HC13 := Aside0.mk H
                clear H
                have p137 : 0 ≤ (x24_1 : Int) := of_decide_eq_true (by first | (with_reducible assumption) | assumption)
                have q137 : x24_1 < (l0.length : Int) := of_decide_eq_true (by first | (with_reducible assumption) | assumption)
                obtain ⟨ad137, e137, hx137_0⟩ := Kd.at_int HR0.out x24_1 p137 q137
                cases e137
                replace hx137_0 := (HB.out.cell (World.block_lt_of_cell? w _ hx137_0)).trans hx137_0
                replace p137 := eq_true p137
                replace q137 := eq_true q137
                go_upto_region 11 with (fail)
                go_cut [38] (fun v38 wc => ∃ (kq : Nat) (x38_12 : Bool), v38 = .bool x38_12 ∧ Aside0 (weighbridgelaw11_ClockRuns.j1 kq l1 (Go.bits .and .i64 a2 2199023255551) x8_1 x9_1 x10_1 x11_1 (rd l0 x24_1) l0 (l0.length : Int) x24_1 x38_12 x137000_1 x137001_1 x137002_1 x137003_1 = some r) ∧ Aside0 (kq ≤ k1) ∧ Aside0 (IsS25 w wc gb136 x137000_1 x137001_1 x137002_1 x137003_1) ∧ Aside0 (Below w.heap.size w wc))
                case first =>
                  have H := HC13.out
                  clear HC13
                  by_cases c14 : x24_1 < (l1.length : Int)
                  · rw [if_pos c14] at H
                    have c14b0 : decide (x24_1 < (l1.length : Int)) = true := decide_eq_true c14
                    clear c14
                    (first | rw [c14b0] | (simp only [i64_w, i32_w]; rw [c14b0]) | skip)
                    have H' := Aside0.mk H
                    clear H
                    have p138 : 0 ≤ (x24_1 : Int) := of_decide_eq_true (by first | (with_reducible assumption) | assumption)
                    have q138 : x24_1 < (l1.length : Int) := of_decide_eq_true (by first | (with_reducible assumption) | assumption)
                    obtain ⟨ad138, e138, hx138_0⟩ := Kd.at_bool HR1.out x24_1 p138 q138
                    cases e138
                    replace hx138_0 := (HB.out.cell (World.block_lt_of_cell? w _ hx138_0)).trans hx138_0
                    replace p138 := eq_true p138
                    replace q138 := eq_true q138
                    go_wp2
                    go_meet
                    case rel => exact ⟨_, (rdOf false l1 x24_1), (by first | rfl | (simp; done) | (simp [*]; done)), H', ⟨by have := HK1.out; first | omega | exact Nat.le_refl _⟩, ⟨by repeat (first | (with_reducible first | exact HI136.out | apply IsS25.alloc | apply IsS25.drewN | apply IsS25.drew | apply IsS25.set_0 | apply IsS25.set_1 | apply IsS25.set_2 | apply IsS25.set_3) | exact HI136.out)⟩, ⟨by repeat (first | (with_reducible first | exact HB.out | apply below_alloc | apply pw_below_drewN | apply below_drew1 | refine below_set ?_ (IsS25.ge HI136.out)) | exact HB.out)⟩⟩
                  · rw [if_neg c14] at H
                    have c14b0 : decide (x24_1 < (l1.length : Int)) = false := decide_eq_false c14
                    clear c14
                    (first | rw [c14b0] | (simp only [i64_w, i32_w]; rw [c14b0]) | skip)
                    have H' := Aside0.mk H
                    clear H
                    go_wp2
                    go_meet
                    case rel => exact ⟨_, (false), (by first | rfl | (simp; done) | (simp [*]; done)), H', ⟨by have := HK1.out; first | omega | exact Nat.le_refl _⟩, ⟨by repeat (first | (with_reducible first | exact HI136.out | apply IsS25.alloc | apply IsS25.drewN | apply IsS25.drew | apply IsS25.set_0 | apply IsS25.set_1 | apply IsS25.set_2 | apply IsS25.set_3) | exact HI136.out)⟩, ⟨by repeat (first | (with_reducible first | exact HB.out | apply below_alloc | apply pw_below_drewN | apply below_drew1 | refine below_set ?_ (IsS25.ge HI136.out)) | exact HB.out)⟩⟩
                case rest =>
                  clear HC13
                  try clear c1
                  try clear p1
                  try clear q1
                  try clear hx1
                  try clear p2
                  try clear c5
                  try clear c6
                  try clear c6b0
                  try clear c6b1
                  try clear c7
                  try clear c10
                  try clear c10b0
                  try clear c11
                  try clear c11b0
                  try clear c12
                  try clear c12b0
                  try clear p13
                  try clear q13
                  try clear hx13
                  try clear c14
                  try clear c14b0
                  try clear hx137_0
                  try clear hx138_0
                  try clear p137
                  try clear p138
                  try clear p2
                  try clear q137
                  try clear q138
                  obtain ⟨kq, x38_12, rfl, HA, HJ12, HI136, HB⟩ := hcut
                  cases kq with
                  | zero => exact absurd HA.out (by simp [weighbridgelaw11_ClockRuns.j1])
                  | succ kj12 =>
                    have H := HA.out
                    clear HA
                    simp only [weighbridgelaw11_ClockRuns.j1] at H
                    have HC15 := Aside0.mk H
                    clear H
                    go_upto_if 38 with (fail)
                    go_cut [8, 9, 10, 11] (fun v8 v9 v10 v11 wc => ∃ (kq : Nat) (x8_14 : Int) (x9_14 : Int) (x10_14 : Bool) (x11_14 : Bool) (x137000_14 : Int) (x137001_14 : Int) (x137002_14 : Bool) (x137003_14 : Bool), v8 = .int .i64 x8_14 ∧ v9 = .int .i64 x9_14 ∧ v10 = .bool x10_14 ∧ v11 = .bool x11_14 ∧ Aside0 (weighbridgelaw11_ClockRuns.j2 kq l1 (Go.bits .and .i64 a2 2199023255551) x8_14 x9_14 x10_14 x11_14 (rd l0 x24_1) l0 (l0.length : Int) x24_1 x137000_14 x137001_14 x137002_14 x137003_14 = some r) ∧ Aside0 (kq ≤ kj12) ∧ Aside0 (IsS25 w wc gb136 x137000_14 x137001_14 x137002_14 x137003_14) ∧ Aside0 (Below w.heap.size w wc))
                    case first =>
                      have H := HC15.out
                      clear HC15
                      by_cases c16 : x38_12 = true
                      · subst c16
                        have H1 : ((clock_Clock_Restart.f x137000_1 x137001_1 x137002_1 x137003_1).bind fun bt139 => ((clock_Clock_Now.f bt139.1 bt139.2.1 bt139.2.2.1 bt139.2.2.2).bind fun bt143 => (if bt143.1 = 0 then ((clock_Clock_Held.f bt143.2.1 bt143.2.2.1 bt143.2.2.2.1 bt143.2.2.2.2 (Go.bits .and .i64 a2 2199023255551)).bind fun bt148 => (if bt148.1 = (Go.bits .and .i64 a2 2199023255551) then (weighbridgelaw11_ClockRuns.j2 kj12 l1 (Go.bits .and .i64 a2 2199023255551) 0 0 true true (rd l0 x24_1) l0 (l0.length : Int) x24_1 bt148.2.1 bt148.2.2.1 bt148.2.2.2.1 bt148.2.2.2.2) else (some false))) else (some false)))) = some r := by rw [if_pos rfl] at H; exact H
                        clear H
                        have H := H1
                        clear H1
                        replace H := Option.bind_eq_some_iff.mp H
                        obtain ⟨⟨t139, t140, t141, t142⟩, A170, H⟩ := H
                        replace H : ((clock_Clock_Now.f t139 t140 t141 t142).bind fun bt143 => (if bt143.1 = 0 then ((clock_Clock_Held.f bt143.2.1 bt143.2.2.1 bt143.2.2.2.1 bt143.2.2.2.2 (Go.bits .and .i64 a2 2199023255551)).bind fun bt148 => (if bt148.1 = (Go.bits .and .i64 a2 2199023255551) then (weighbridgelaw11_ClockRuns.j2 kj12 l1 (Go.bits .and .i64 a2 2199023255551) 0 0 true true (rd l0 x24_1) l0 (l0.length : Int) x24_1 bt148.2.1 bt148.2.2.1 bt148.2.2.2.1 bt148.2.2.2.2) else (some false))) else (some false))) = some r := H
                        have A17 := Aside0.mk A170
                        clear A170
                        replace H := Option.bind_eq_some_iff.mp H
                        obtain ⟨⟨t143, t144, t145, t146, t147⟩, A180, H⟩ := H
                        replace H : (if t143 = 0 then ((clock_Clock_Held.f t144 t145 t146 t147 (Go.bits .and .i64 a2 2199023255551)).bind fun bt148 => (if bt148.1 = (Go.bits .and .i64 a2 2199023255551) then (weighbridgelaw11_ClockRuns.j2 kj12 l1 (Go.bits .and .i64 a2 2199023255551) 0 0 true true (rd l0 x24_1) l0 (l0.length : Int) x24_1 bt148.2.1 bt148.2.2.1 bt148.2.2.2.1 bt148.2.2.2.2) else (some false))) else (some false)) = some r := H
                        have A18 := Aside0.mk A180
                        clear A180
                        by_cases c19 : t143 = 0
                        · rw [if_pos c19] at H
                          have c19b0 : (t143 == 0) = true := beq_iff_eq.mpr c19
                          have c19b1 : (t143 != 0) = false := bne_eq_false_iff_eq.mpr c19
                          clear c19
                          (first | rw [c19b0] | (simp only [i64_w, i32_w]; rw [c19b0]) | skip)
                          replace H := Option.bind_eq_some_iff.mp H
                          obtain ⟨⟨t148, t149, t150, t151, t152⟩, A200, H⟩ := H
                          replace H : (if t148 = (Go.bits .and .i64 a2 2199023255551) then (weighbridgelaw11_ClockRuns.j2 kj12 l1 (Go.bits .and .i64 a2 2199023255551) 0 0 true true (rd l0 x24_1) l0 (l0.length : Int) x24_1 t149 t150 t151 t152) else (some false)) = some r := H
                          have A20 := Aside0.mk A200
                          clear A200
                          by_cases c21 : t148 = (Go.bits .and .i64 a2 2199023255551)
                          · rw [if_pos c21] at H
                            have c21b0 : (t148 == (Go.bits .and .i64 a2 2199023255551)) = true := beq_iff_eq.mpr c21
                            have c21b1 : (t148 != (Go.bits .and .i64 a2 2199023255551)) = false := bne_eq_false_iff_eq.mpr c21
                            clear c21
                            have H' := Aside0.mk H
                            clear H
                            go_wp2_with (first | ((with_reducible refine gate_callee (f := 11) rfl ?_); refine goesL_ (some 39) rfl rfl Try.func11 (by kernel_rfl) rfl #[.pointer (some ⟨gb136, 0, none⟩)] rfl (by (try simp only [List.map_toArray, List.map_cons, List.map_nil]); first | done | rfl | (simp only [List.length_drop, List.length_take]; rfl)) ?_; (with_reducible refine (clock_Clock_Restart.calls gb136 x137000_1 x137001_1 x137002_1 x137003_1 t139 t140 t141 t142 w _ ?side1 ?side2 A17.out).mono ?_); (case side1 => repeat (first | (with_reducible first | exact HI136.out | apply IsS25.alloc | apply IsS25.drewN | apply IsS25.drew | apply IsS25.set_0 | apply IsS25.set_1 | apply IsS25.set_2 | apply IsS25.set_3) | exact HI136.out)); (case side2 => repeat (first | (with_reducible first | exact HB.out | apply below_alloc | apply pw_below_drewN | apply below_drew1 | refine below_set ?_ (IsS25.ge HI136.out)) | exact HB.out)); rintro e w22 ⟨rfl, hi, hb, hk⟩; refine ⟨_, rfl, ?_⟩; have n0_ := Aside0.mk (hb); have n1_ := Aside0.mk (hi); clear HB; clear HI136; have HB := n0_; have HI136 := n1_; clear n0_ n1_; (try clear hb); (try clear hb2); (try clear hk); (try clear hi)) | ((with_reducible refine gate_callee (f := 10) rfl ?_); refine goesL_ (some 40) rfl rfl Try.func10 (by kernel_rfl) rfl #[.pointer (some ⟨gb136, 0, none⟩)] rfl (by (try simp only [List.map_toArray, List.map_cons, List.map_nil]); first | done | rfl | (simp only [List.length_drop, List.length_take]; rfl)) ?_; (with_reducible refine (clock_Clock_Now.calls gb136 t139 t140 t141 t142 t143 t144 t145 t146 t147 w _ ?side1 ?side2 A18.out).mono ?_); (case side1 => repeat (first | (with_reducible first | exact HI136.out | apply IsS25.alloc | apply IsS25.drewN | apply IsS25.drew | apply IsS25.set_0 | apply IsS25.set_1 | apply IsS25.set_2 | apply IsS25.set_3) | exact HI136.out)); (case side2 => repeat (first | (with_reducible first | exact HB.out | apply below_alloc | apply pw_below_drewN | apply below_drew1 | refine below_set ?_ (IsS25.ge HI136.out)) | exact HB.out)); rintro e w23 ⟨rfl, hi, hb, hk⟩; refine ⟨_, rfl, ?_⟩; have n0_ := Aside0.mk (hb); have n1_ := Aside0.mk (hi); clear HB; clear HI136; have HB := n0_; have HI136 := n1_; clear n0_ n1_; (try clear hb); (try clear hb2); (try clear hk); (try clear hi)) | (go_at_call 9; (with_reducible refine (clock_Clock_Held.calls gb136 t144 t145 t146 t147 (Go.bits .and .i64 a2 2199023255551) t148 t149 t150 t151 t152 w _ ?side1 ?side2 A20.out).mono ?_); (case side1 => repeat (first | (with_reducible first | exact HI136.out | apply IsS25.alloc | apply IsS25.drewN | apply IsS25.drew | apply IsS25.set_0 | apply IsS25.set_1 | apply IsS25.set_2 | apply IsS25.set_3) | exact HI136.out)); (case side2 => repeat (first | (with_reducible first | exact HB.out | apply below_alloc | apply pw_below_drewN | apply below_drew1 | refine below_set ?_ (IsS25.ge HI136.out)) | exact HB.out)); rintro e w24 ⟨rfl, hi, hb, hk⟩; have n0_ := Aside0.mk (hb); have n1_ := Aside0.mk (hi); clear HB; clear HI136; have HB := n0_; have HI136 := n1_; clear n0_ n1_; (try clear hb); (try clear hb2); (try clear hk); (try clear hi)))
                            go_meet
                            case rel => exact ⟨_, (0), (0), (true), (true), (t149), (t150), (t151), (t152), (by first | rfl | (simp; done) | (simp [*]; done)), (by first | rfl | (simp; done) | (simp [*]; done)), (by first | rfl | (simp; done) | (simp [*]; done)), (by first | rfl | (simp; done) | (simp [*]; done)), H', ⟨by have := HK1.out; have := HJ12.out; first | omega | exact Nat.le_refl _⟩, ⟨by repeat (first | (with_reducible first | exact HI136.out | apply IsS25.alloc | apply IsS25.drewN | apply IsS25.drew | apply IsS25.set_0 | apply IsS25.set_1 | apply IsS25.set_2 | apply IsS25.set_3) | exact HI136.out)⟩, ⟨by repeat (first | (with_reducible first | exact HB.out | apply below_alloc | apply pw_below_drewN | apply below_drew1 | refine below_set ?_ (IsS25.ge HI136.out)) | exact HB.out)⟩⟩
                          · rw [if_neg c21] at H
                            have c21b0 : (t148 == (Go.bits .and .i64 a2 2199023255551)) = false := beq_eq_false_iff_ne.mpr c21
                            have c21b1 : (t148 != (Go.bits .and .i64 a2 2199023255551)) = true := bne_iff_ne.mpr c21
                            obtain rfl := Option.some.inj H
                            go_wp2_with (first | ((with_reducible refine gate_callee (f := 11) rfl ?_); refine goesL_ (some 39) rfl rfl Try.func11 (by kernel_rfl) rfl #[.pointer (some ⟨gb136, 0, none⟩)] rfl (by (try simp only [List.map_toArray, List.map_cons, List.map_nil]); first | done | rfl | (simp only [List.length_drop, List.length_take]; rfl)) ?_; (with_reducible refine (clock_Clock_Restart.calls gb136 x137000_1 x137001_1 x137002_1 x137003_1 t139 t140 t141 t142 w _ ?side1 ?side2 A17.out).mono ?_); (case side1 => repeat (first | (with_reducible first | exact HI136.out | apply IsS25.alloc | apply IsS25.drewN | apply IsS25.drew | apply IsS25.set_0 | apply IsS25.set_1 | apply IsS25.set_2 | apply IsS25.set_3) | exact HI136.out)); (case side2 => repeat (first | (with_reducible first | exact HB.out | apply below_alloc | apply pw_below_drewN | apply below_drew1 | refine below_set ?_ (IsS25.ge HI136.out)) | exact HB.out)); rintro e w25 ⟨rfl, hi, hb, hk⟩; refine ⟨_, rfl, ?_⟩; have n0_ := Aside0.mk (hb); have n1_ := Aside0.mk (hi); clear HB; clear HI136; have HB := n0_; have HI136 := n1_; clear n0_ n1_; (try clear hb); (try clear hb2); (try clear hk); (try clear hi)) | ((with_reducible refine gate_callee (f := 10) rfl ?_); refine goesL_ (some 40) rfl rfl Try.func10 (by kernel_rfl) rfl #[.pointer (some ⟨gb136, 0, none⟩)] rfl (by (try simp only [List.map_toArray, List.map_cons, List.map_nil]); first | done | rfl | (simp only [List.length_drop, List.length_take]; rfl)) ?_; (with_reducible refine (clock_Clock_Now.calls gb136 t139 t140 t141 t142 t143 t144 t145 t146 t147 w _ ?side1 ?side2 A18.out).mono ?_); (case side1 => repeat (first | (with_reducible first | exact HI136.out | apply IsS25.alloc | apply IsS25.drewN | apply IsS25.drew | apply IsS25.set_0 | apply IsS25.set_1 | apply IsS25.set_2 | apply IsS25.set_3) | exact HI136.out)); (case side2 => repeat (first | (with_reducible first | exact HB.out | apply below_alloc | apply pw_below_drewN | apply below_drew1 | refine below_set ?_ (IsS25.ge HI136.out)) | exact HB.out)); rintro e w26 ⟨rfl, hi, hb, hk⟩; refine ⟨_, rfl, ?_⟩; have n0_ := Aside0.mk (hb); have n1_ := Aside0.mk (hi); clear HB; clear HI136; have HB := n0_; have HI136 := n1_; clear n0_ n1_; (try clear hb); (try clear hb2); (try clear hk); (try clear hi)) | (go_at_call 9; (with_reducible refine (clock_Clock_Held.calls gb136 t144 t145 t146 t147 (Go.bits .and .i64 a2 2199023255551) t148 t149 t150 t151 t152 w _ ?side1 ?side2 A20.out).mono ?_); (case side1 => repeat (first | (with_reducible first | exact HI136.out | apply IsS25.alloc | apply IsS25.drewN | apply IsS25.drew | apply IsS25.set_0 | apply IsS25.set_1 | apply IsS25.set_2 | apply IsS25.set_3) | exact HI136.out)); (case side2 => repeat (first | (with_reducible first | exact HB.out | apply below_alloc | apply pw_below_drewN | apply below_drew1 | refine below_set ?_ (IsS25.ge HI136.out)) | exact HB.out)); rintro e w27 ⟨rfl, hi, hb, hk⟩; have n0_ := Aside0.mk (hb); have n1_ := Aside0.mk (hi); clear HB; clear HI136; have HB := n0_; have HI136 := n1_; clear n0_ n1_; (try clear hb); (try clear hb2); (try clear hk); (try clear hi)))
                            go_ret
                            exact ⟨by first | rfl | (simp [errW_none, errW_some] <;> rfl) | (simp [*, errW_none, errW_some] <;> rfl), by repeat (first | (with_reducible first | exact HB.out | apply below_alloc | apply pw_below_drewN | apply below_drew1 | refine below_set ?_ (IsS25.ge HI136.out)) | exact HB.out)⟩
                        · rw [if_neg c19] at H
                          have c19b0 : (t143 == 0) = false := beq_eq_false_iff_ne.mpr c19
                          have c19b1 : (t143 != 0) = true := bne_iff_ne.mpr c19
                          (first | rw [c19b0] | (simp only [i64_w, i32_w]; rw [c19b0]) | skip)
                          obtain rfl := Option.some.inj H
                          go_wp2_with (first | ((with_reducible refine gate_callee (f := 11) rfl ?_); refine goesL_ (some 39) rfl rfl Try.func11 (by kernel_rfl) rfl #[.pointer (some ⟨gb136, 0, none⟩)] rfl (by (try simp only [List.map_toArray, List.map_cons, List.map_nil]); first | done | rfl | (simp only [List.length_drop, List.length_take]; rfl)) ?_; (with_reducible refine (clock_Clock_Restart.calls gb136 x137000_1 x137001_1 x137002_1 x137003_1 t139 t140 t141 t142 w _ ?side1 ?side2 A17.out).mono ?_); (case side1 => repeat (first | (with_reducible first | exact HI136.out | apply IsS25.alloc | apply IsS25.drewN | apply IsS25.drew | apply IsS25.set_0 | apply IsS25.set_1 | apply IsS25.set_2 | apply IsS25.set_3) | exact HI136.out)); (case side2 => repeat (first | (with_reducible first | exact HB.out | apply below_alloc | apply pw_below_drewN | apply below_drew1 | refine below_set ?_ (IsS25.ge HI136.out)) | exact HB.out)); rintro e w28 ⟨rfl, hi, hb, hk⟩; refine ⟨_, rfl, ?_⟩; have n0_ := Aside0.mk (hb); have n1_ := Aside0.mk (hi); clear HB; clear HI136; have HB := n0_; have HI136 := n1_; clear n0_ n1_; (try clear hb); (try clear hb2); (try clear hk); (try clear hi)) | ((with_reducible refine gate_callee (f := 10) rfl ?_); refine goesL_ (some 40) rfl rfl Try.func10 (by kernel_rfl) rfl #[.pointer (some ⟨gb136, 0, none⟩)] rfl (by (try simp only [List.map_toArray, List.map_cons, List.map_nil]); first | done | rfl | (simp only [List.length_drop, List.length_take]; rfl)) ?_; (with_reducible refine (clock_Clock_Now.calls gb136 t139 t140 t141 t142 t143 t144 t145 t146 t147 w _ ?side1 ?side2 A18.out).mono ?_); (case side1 => repeat (first | (with_reducible first | exact HI136.out | apply IsS25.alloc | apply IsS25.drewN | apply IsS25.drew | apply IsS25.set_0 | apply IsS25.set_1 | apply IsS25.set_2 | apply IsS25.set_3) | exact HI136.out)); (case side2 => repeat (first | (with_reducible first | exact HB.out | apply below_alloc | apply pw_below_drewN | apply below_drew1 | refine below_set ?_ (IsS25.ge HI136.out)) | exact HB.out)); rintro e w29 ⟨rfl, hi, hb, hk⟩; refine ⟨_, rfl, ?_⟩; have n0_ := Aside0.mk (hb); have n1_ := Aside0.mk (hi); clear HB; clear HI136; have HB := n0_; have HI136 := n1_; clear n0_ n1_; (try clear hb); (try clear hb2); (try clear hk); (try clear hi)))
                          go_ret
                          exact ⟨by first | rfl | (simp [errW_none, errW_some] <;> rfl) | (simp [*, errW_none, errW_some] <;> rfl), by repeat (first | (with_reducible first | exact HB.out | apply below_alloc | apply pw_below_drewN | apply below_drew1 | refine below_set ?_ (IsS25.ge HI136.out)) | exact HB.out)⟩
                      · replace c16 := Bool.eq_false_iff.mpr c16
                        subst c16
                        have H1 : (weighbridgelaw11_ClockRuns.j2 kj12 l1 (Go.bits .and .i64 a2 2199023255551) x8_1 x9_1 x10_1 x11_1 (rd l0 x24_1) l0 (l0.length : Int) x24_1 x137000_1 x137001_1 x137002_1 x137003_1) = some r := by rw [if_neg (show ¬ (false = true) by decide)] at H; exact H
                        clear H
                        have H := H1
                        clear H1
                        have H' := Aside0.mk H
                        clear H
                        go_wp2
                        go_meet
                        case rel => exact ⟨_, (x8_1), (x9_1), (x10_1), (x11_1), (x137000_1), (x137001_1), (x137002_1), (x137003_1), (by first | rfl | (simp; done) | (simp [*]; done)), (by first | rfl | (simp; done) | (simp [*]; done)), (by first | rfl | (simp; done) | (simp [*]; done)), (by first | rfl | (simp; done) | (simp [*]; done)), H', ⟨by have := HK1.out; have := HJ12.out; first | omega | exact Nat.le_refl _⟩, ⟨by repeat (first | (with_reducible first | exact HI136.out | apply IsS25.alloc | apply IsS25.drewN | apply IsS25.drew | apply IsS25.set_0 | apply IsS25.set_1 | apply IsS25.set_2 | apply IsS25.set_3) | exact HI136.out)⟩, ⟨by repeat (first | (with_reducible first | exact HB.out | apply below_alloc | apply pw_below_drewN | apply below_drew1 | refine below_set ?_ (IsS25.ge HI136.out)) | exact HB.out)⟩⟩
                    case rest =>
                      clear HC15
                      try clear c1
                      try clear p1
                      try clear q1
                      try clear hx1
                      try clear c2
                      try clear p2
                      try clear c5
                      try clear c6
                      try clear c6b0
                      try clear c6b1
                      try clear c7
                      try clear c10
                      try clear c10b0
                      try clear c11
                      try clear c11b0
                      try clear c12
                      try clear c12b0
                      try clear p13
                      try clear q13
                      try clear hx13
                      try clear c14
                      try clear c14b0
                      try clear c16
                      try clear c19
                      try clear c19b0
                      try clear c19b1
                      try clear c21
                      try clear c21b0
                      try clear c21b1
                      try clear hx137_0
                      try clear hx138_0
                      try clear p1
                      try clear p13
                      try clear p137
                      try clear p138
                      try clear p2
                      try clear q1
                      try clear q13
                      try clear q137
                      try clear q138
                      obtain ⟨kq, x8_14, x9_14, x10_14, x11_14, x137000_14, x137001_14, x137002_14, x137003_14, rfl, rfl, rfl, rfl, HA, HJ14, HI136, HB⟩ := hcut
                      cases kq with
                      | zero => exact absurd HA.out (by simp [weighbridgelaw11_ClockRuns.j2])
                      | succ kj14 =>
                        have H := HA.out
                        clear HA
                        simp only [weighbridgelaw11_ClockRuns.j2] at H
                        obtain ⟨ji30, hji30⟩ : ∃ j_ : Int, (mx x8_14 (rd l0 x24_1)) = j_ := ⟨_, rfl⟩
                        replace H : (if x11_14 = true then (weighbridgelaw11_ClockRuns.j3 kj14 l1 (Go.bits .and .i64 a2 2199023255551) ji30 ji30 x10_14 false (rd l0 x24_1) l0 (l0.length : Int) x24_1 x137000_14 x137001_14 x137002_14 x137003_14) else (weighbridgelaw11_ClockRuns.j3 kj14 l1 (Go.bits .and .i64 a2 2199023255551) ji30 x9_14 x10_14 x11_14 (rd l0 x24_1) l0 (l0.length : Int) x24_1 x137000_14 x137001_14 x137002_14 x137003_14)) = some r := by first | (rw [hji30] at H; exact H) | (simp only [hji30] at H ⊢; exact H)
                        have hji30_ : (if x8_14 < (rd l0 x24_1) then (rd l0 x24_1) else x8_14) = ji30 := hji30
                        have HC31 := Aside0.mk H
                        clear H
                        go_upto_if 51 with (fail)
                        go_cut [9, 11] (fun v9 v11 wc => ∃ (kq : Nat) (x9_30 : Int) (x11_30 : Bool), v9 = .int .i64 x9_30 ∧ v11 = .bool x11_30 ∧ Aside0 (weighbridgelaw11_ClockRuns.j3 kq l1 (Go.bits .and .i64 a2 2199023255551) ji30 x9_30 x10_14 x11_30 (rd l0 x24_1) l0 (l0.length : Int) x24_1 x137000_14 x137001_14 x137002_14 x137003_14 = some r) ∧ Aside0 (kq ≤ kj14) ∧ Aside0 (IsS25 w wc gb136 x137000_14 x137001_14 x137002_14 x137003_14) ∧ Aside0 (Below w.heap.size w wc))
                        case first =>
                          have H := HC31.out
                          clear HC31
                          by_cases c32 : x11_14 = true
                          · subst c32
                            have H1 : (weighbridgelaw11_ClockRuns.j3 kj14 l1 (Go.bits .and .i64 a2 2199023255551) ji30 ji30 x10_14 false (rd l0 x24_1) l0 (l0.length : Int) x24_1 x137000_14 x137001_14 x137002_14 x137003_14) = some r := by rw [if_pos rfl] at H; exact H
                            clear H
                            have H := H1
                            clear H1
                            have H' := Aside0.mk H
                            clear H
                            go_wp2
                            go_meet
                            case rel => exact ⟨_, (ji30), (false), (by first | rfl | (simp; done) | (simp only [← hji30] <;> (first | rfl | simp)) | (simp [*]; done)), (by first | rfl | (simp; done) | (simp [*]; done)), H', ⟨by have := HK1.out; have := HJ12.out; have := HJ14.out; first | omega | exact Nat.le_refl _⟩, ⟨by repeat (first | (with_reducible first | exact HI136.out | apply IsS25.alloc | apply IsS25.drewN | apply IsS25.drew | apply IsS25.set_0 | apply IsS25.set_1 | apply IsS25.set_2 | apply IsS25.set_3) | exact HI136.out)⟩, ⟨by repeat (first | (with_reducible first | exact HB.out | apply below_alloc | apply pw_below_drewN | apply below_drew1 | refine below_set ?_ (IsS25.ge HI136.out)) | exact HB.out)⟩⟩
                          · replace c32 := Bool.eq_false_iff.mpr c32
                            subst c32
                            have H1 : (weighbridgelaw11_ClockRuns.j3 kj14 l1 (Go.bits .and .i64 a2 2199023255551) ji30 x9_14 x10_14 false (rd l0 x24_1) l0 (l0.length : Int) x24_1 x137000_14 x137001_14 x137002_14 x137003_14) = some r := by rw [if_neg (show ¬ (false = true) by decide)] at H; exact H
                            clear H
                            have H := H1
                            clear H1
                            have H' := Aside0.mk H
                            clear H
                            go_wp2
                            go_meet
                            case rel => exact ⟨_, (x9_14), (false), (by first | rfl | (simp; done) | (simp [*]; done)), (by first | rfl | (simp; done) | (simp [*]; done)), H', ⟨by have := HK1.out; have := HJ12.out; have := HJ14.out; first | omega | exact Nat.le_refl _⟩, ⟨by repeat (first | (with_reducible first | exact HI136.out | apply IsS25.alloc | apply IsS25.drewN | apply IsS25.drew | apply IsS25.set_0 | apply IsS25.set_1 | apply IsS25.set_2 | apply IsS25.set_3) | exact HI136.out)⟩, ⟨by repeat (first | (with_reducible first | exact HB.out | apply below_alloc | apply pw_below_drewN | apply below_drew1 | refine below_set ?_ (IsS25.ge HI136.out)) | exact HB.out)⟩⟩
                        case rest =>
                          clear HC31
                          try clear c1
                          try clear p1
                          try clear q1
                          try clear hx1
                          try clear c2
                          try clear p2
                          try clear c3
                          try clear c5
                          try clear c6
                          try clear c6b0
                          try clear c6b1
                          try clear c7
                          try clear c10
                          try clear c10b0
                          try clear c11
                          try clear c11b0
                          try clear c12
                          try clear c12b0
                          try clear p13
                          try clear q13
                          try clear hx13
                          try clear c14
                          try clear c14b0
                          try clear c16
                          try clear c19
                          try clear c19b0
                          try clear c19b1
                          try clear c21
                          try clear c21b0
                          try clear c21b1
                          try clear c32
                          try clear hx137_0
                          try clear hx138_0
                          try clear p1
                          try clear p13
                          try clear p137
                          try clear p138
                          try clear p2
                          try clear q1
                          try clear q13
                          try clear q137
                          try clear q138
                          obtain ⟨kq, x9_30, x11_30, rfl, rfl, HA, HJ30, HI136, HB⟩ := hcut
                          cases kq with
                          | zero => exact absurd HA.out (by simp [weighbridgelaw11_ClockRuns.j3])
                          | succ kj30 =>
                            have H := HA.out
                            clear HA
                            simp only [weighbridgelaw11_ClockRuns.j3] at H
                            have HC33 := Aside0.mk H
                            clear H
                            go_upto_region 20 with (fail)
                            go_cut [60] (fun v60 wc => ∃ (kq : Nat) (x60_32 : Bool), v60 = .bool x60_32 ∧ Aside0 (weighbridgelaw11_ClockRuns.j4 kq l1 (Go.bits .and .i64 a2 2199023255551) ji30 x9_30 x10_14 x11_30 (rd l0 x24_1) 0 l0 (l0.length : Int) x24_1 x60_32 x137000_14 x137001_14 x137002_14 x137003_14 = some r) ∧ Aside0 (kq ≤ kj30) ∧ Aside0 (IsS25 w wc gb136 x137000_14 x137001_14 x137002_14 x137003_14) ∧ Aside0 (Below w.heap.size w wc))
                            case first =>
                              have H := HC33.out
                              clear HC33
                              by_cases c34 : x10_14 = true
                              · subst c34
                                have H1 : (weighbridgelaw11_ClockRuns.j4 kj30 l1 (Go.bits .and .i64 a2 2199023255551) ji30 x9_30 true x11_30 (rd l0 x24_1) 0 l0 (l0.length : Int) x24_1 (decide ((wrap64 (ji30 - x9_30)) < (Go.bits .and .i64 a2 2199023255551))) x137000_14 x137001_14 x137002_14 x137003_14) = some r := by rw [if_pos rfl] at H; exact H
                                clear H
                                have H := H1
                                clear H1
                                have H' := Aside0.mk H
                                clear H
                                go_wp2
                                go_meet
                                case rel => exact ⟨_, (decide ((wrap64 (ji30 - x9_30)) < (Go.bits .and .i64 a2 2199023255551))), (by first | rfl | (simp; done) | (simp only [← hji30] <;> (first | rfl | simp)) | (simp [*]; done)), H', ⟨by have := HK1.out; have := HJ12.out; have := HJ14.out; have := HJ30.out; first | omega | exact Nat.le_refl _⟩, ⟨by repeat (first | (with_reducible first | exact HI136.out | apply IsS25.alloc | apply IsS25.drewN | apply IsS25.drew | apply IsS25.set_0 | apply IsS25.set_1 | apply IsS25.set_2 | apply IsS25.set_3) | exact HI136.out)⟩, ⟨by repeat (first | (with_reducible first | exact HB.out | apply below_alloc | apply pw_below_drewN | apply below_drew1 | refine below_set ?_ (IsS25.ge HI136.out)) | exact HB.out)⟩⟩
                              · replace c34 := Bool.eq_false_iff.mpr c34
                                subst c34
                                have H1 : (weighbridgelaw11_ClockRuns.j4 kj30 l1 (Go.bits .and .i64 a2 2199023255551) ji30 x9_30 false x11_30 (rd l0 x24_1) 0 l0 (l0.length : Int) x24_1 false x137000_14 x137001_14 x137002_14 x137003_14) = some r := by rw [if_neg (show ¬ (false = true) by decide)] at H; exact H
                                clear H
                                have H := H1
                                clear H1
                                have H' := Aside0.mk H
                                clear H
                                go_wp2
                                go_meet
                                case rel => exact ⟨_, (false), (by first | rfl | (simp; done) | (simp [*]; done)), H', ⟨by have := HK1.out; have := HJ12.out; have := HJ14.out; have := HJ30.out; first | omega | exact Nat.le_refl _⟩, ⟨by repeat (first | (with_reducible first | exact HI136.out | apply IsS25.alloc | apply IsS25.drewN | apply IsS25.drew | apply IsS25.set_0 | apply IsS25.set_1 | apply IsS25.set_2 | apply IsS25.set_3) | exact HI136.out)⟩, ⟨by repeat (first | (with_reducible first | exact HB.out | apply below_alloc | apply pw_below_drewN | apply below_drew1 | refine below_set ?_ (IsS25.ge HI136.out)) | exact HB.out)⟩⟩
                            case rest =>
                              clear HC33
                              try clear c1
                              try clear p1
                              try clear q1
                              try clear hx1
                              try clear c2
                              try clear p2
                              try clear c3
                              try clear c5
                              try clear c6
                              try clear c6b0
                              try clear c6b1
                              try clear p6
                              try clear c7
                              try clear c10
                              try clear c10b0
                              try clear c11
                              try clear c11b0
                              try clear c12
                              try clear c12b0
                              try clear p13
                              try clear q13
                              try clear hx13
                              try clear c14
                              try clear c14b0
                              try clear c16
                              try clear c19
                              try clear c19b0
                              try clear c19b1
                              try clear c21
                              try clear c21b0
                              try clear c21b1
                              try clear c32
                              try clear c34
                              try clear hx137_0
                              try clear hx138_0
                              try clear p1
                              try clear p13
                              try clear p137
                              try clear p138
                              try clear p2
                              try clear q1
                              try clear q13
                              try clear q137
                              try clear q138
                              obtain ⟨kq, x60_32, rfl, HA, HJ32, HI136, HB⟩ := hcut
                              cases kq with
                              | zero => exact absurd HA.out (by simp [weighbridgelaw11_ClockRuns.j4])
                              | succ kj32 =>
                                have H := HA.out
                                clear HA
                                simp only [weighbridgelaw11_ClockRuns.j4] at H
                                have HC35 := Aside0.mk H
                                clear H
                                go_upto_if 60 with (fail)
                                go_cut [14] (fun v14 wc => ∃ (kq : Nat) (x14_34 : Int), v14 = .int .i64 x14_34 ∧ Aside0 (weighbridgelaw11_ClockRuns.j5 kq l1 (Go.bits .and .i64 a2 2199023255551) ji30 x9_30 x10_14 x11_30 (rd l0 x24_1) x14_34 l0 (l0.length : Int) x24_1 x137000_14 x137001_14 x137002_14 x137003_14 = some r) ∧ Aside0 (kq ≤ kj32) ∧ Aside0 (IsS25 w wc gb136 x137000_14 x137001_14 x137002_14 x137003_14) ∧ Aside0 (Below w.heap.size w wc))
                                case first =>
                                  have H := HC35.out
                                  clear HC35
                                  by_cases c36 : x60_32 = true
                                  · subst c36
                                    have H1 : (weighbridgelaw11_ClockRuns.j5 kj32 l1 (Go.bits .and .i64 a2 2199023255551) ji30 x9_30 x10_14 x11_30 (rd l0 x24_1) (wrap64 ((wrap64 (x9_30 - ji30)) + (Go.bits .and .i64 a2 2199023255551))) l0 (l0.length : Int) x24_1 x137000_14 x137001_14 x137002_14 x137003_14) = some r := by rw [if_pos rfl] at H; exact H
                                    clear H
                                    have H := H1
                                    clear H1
                                    have H' := Aside0.mk H
                                    clear H
                                    go_wp2
                                    go_meet
                                    case rel => exact ⟨_, (wrap64 ((wrap64 (x9_30 - ji30)) + (Go.bits .and .i64 a2 2199023255551))), (by first | rfl | (simp; done) | (simp only [← hji30] <;> (first | rfl | simp)) | (simp [*]; done)), H', ⟨by have := HK1.out; have := HJ12.out; have := HJ14.out; have := HJ30.out; have := HJ32.out; first | omega | exact Nat.le_refl _⟩, ⟨by repeat (first | (with_reducible first | exact HI136.out | apply IsS25.alloc | apply IsS25.drewN | apply IsS25.drew | apply IsS25.set_0 | apply IsS25.set_1 | apply IsS25.set_2 | apply IsS25.set_3) | exact HI136.out)⟩, ⟨by repeat (first | (with_reducible first | exact HB.out | apply below_alloc | apply pw_below_drewN | apply below_drew1 | refine below_set ?_ (IsS25.ge HI136.out)) | exact HB.out)⟩⟩
                                  · replace c36 := Bool.eq_false_iff.mpr c36
                                    subst c36
                                    have H1 : (weighbridgelaw11_ClockRuns.j5 kj32 l1 (Go.bits .and .i64 a2 2199023255551) ji30 x9_30 x10_14 x11_30 (rd l0 x24_1) 0 l0 (l0.length : Int) x24_1 x137000_14 x137001_14 x137002_14 x137003_14) = some r := by rw [if_neg (show ¬ (false = true) by decide)] at H; exact H
                                    clear H
                                    have H := H1
                                    clear H1
                                    have H' := Aside0.mk H
                                    clear H
                                    go_wp2
                                    go_meet
                                    case rel => exact ⟨_, (0), (by first | rfl | (simp; done) | (simp [*]; done)), H', ⟨by have := HK1.out; have := HJ12.out; have := HJ14.out; have := HJ30.out; have := HJ32.out; first | omega | exact Nat.le_refl _⟩, ⟨by repeat (first | (with_reducible first | exact HI136.out | apply IsS25.alloc | apply IsS25.drewN | apply IsS25.drew | apply IsS25.set_0 | apply IsS25.set_1 | apply IsS25.set_2 | apply IsS25.set_3) | exact HI136.out)⟩, ⟨by repeat (first | (with_reducible first | exact HB.out | apply below_alloc | apply pw_below_drewN | apply below_drew1 | refine below_set ?_ (IsS25.ge HI136.out)) | exact HB.out)⟩⟩
                                case rest =>
                                  clear HC35
                                  try clear c1
                                  try clear p1
                                  try clear q1
                                  try clear hx1
                                  try clear c2
                                  try clear p2
                                  try clear c3
                                  try clear c5
                                  try clear c6
                                  try clear c6b0
                                  try clear c6b1
                                  try clear p6
                                  try clear c7
                                  try clear c10
                                  try clear c10b0
                                  try clear c11
                                  try clear c11b0
                                  try clear c12
                                  try clear c12b0
                                  try clear p13
                                  try clear q13
                                  try clear hx13
                                  try clear c14
                                  try clear c14b0
                                  try clear c16
                                  try clear c19
                                  try clear c19b0
                                  try clear c19b1
                                  try clear c21
                                  try clear c21b0
                                  try clear c21b1
                                  try clear c32
                                  try clear c34
                                  try clear c36
                                  try clear hx137_0
                                  try clear hx138_0
                                  try clear p1
                                  try clear p13
                                  try clear p137
                                  try clear p138
                                  try clear p2
                                  try clear p6
                                  try clear q1
                                  try clear q13
                                  try clear q137
                                  try clear q138
                                  obtain ⟨kq, x14_34, rfl, HA, HJ34, HI136, HB⟩ := hcut
                                  cases kq with
                                  | zero => exact absurd HA.out (by simp [weighbridgelaw11_ClockRuns.j5])
                                  | succ kj34 =>
                                    have H := HA.out
                                    clear HA
                                    simp only [weighbridgelaw11_ClockRuns.j5] at H
                                    replace H := Option.bind_eq_some_iff.mp H
                                    obtain ⟨⟨t153, t154, t155, t156, t157⟩, A370, H⟩ := H
                                    replace H : (if t153 = ji30 then ((clock_Clock_Now.f t154 t155 t156 t157).bind fun bt158 => (if bt158.1 = ji30 then ((clock_Clock_Over.f bt158.2.1 bt158.2.2.1 bt158.2.2.2.1 bt158.2.2.2.2).bind fun bt163 => (if (bt163.1 == (decide (ji30 ≥ 4611686018427387904))) = true then (if x9_30 < 4611686018427387904 then ((clock_Clock_Held.f bt163.2.1 bt163.2.2.1 bt163.2.2.2.1 bt163.2.2.2.2 (Go.bits .and .i64 a2 2199023255551)).bind fun bt168 => (if bt168.1 = x14_34 then (weighbridgelaw11_ClockRuns.l0 kj34 l1 (Go.bits .and .i64 a2 2199023255551) ji30 x9_30 x10_14 x11_30 l0 (l0.length : Int) (wrap64 (x24_1 + 1)) bt168.2.1 bt168.2.2.1 bt168.2.2.2.1 bt168.2.2.2.2) else (some false))) else (weighbridgelaw11_ClockRuns.l0 kj34 l1 (Go.bits .and .i64 a2 2199023255551) ji30 x9_30 x10_14 x11_30 l0 (l0.length : Int) (wrap64 (x24_1 + 1)) bt163.2.1 bt163.2.2.1 bt163.2.2.2.1 bt163.2.2.2.2)) else (some false))) else (some false))) else (some false)) = some r := H
                                    have A37 := Aside0.mk A370
                                    clear A370
                                    by_cases c38 : t153 = ji30
                                    · rw [if_pos c38] at H
                                      have c38b0 : (t153 == ji30) = true := beq_iff_eq.mpr c38
                                      have c38b1 : (t153 != ji30) = false := bne_eq_false_iff_eq.mpr c38
                                      clear c38
                                      replace H := Option.bind_eq_some_iff.mp H
                                      obtain ⟨⟨t158, t159, t160, t161, t162⟩, A390, H⟩ := H
                                      replace H : (if t158 = ji30 then ((clock_Clock_Over.f t159 t160 t161 t162).bind fun bt163 => (if (bt163.1 == (decide (ji30 ≥ 4611686018427387904))) = true then (if x9_30 < 4611686018427387904 then ((clock_Clock_Held.f bt163.2.1 bt163.2.2.1 bt163.2.2.2.1 bt163.2.2.2.2 (Go.bits .and .i64 a2 2199023255551)).bind fun bt168 => (if bt168.1 = x14_34 then (weighbridgelaw11_ClockRuns.l0 kj34 l1 (Go.bits .and .i64 a2 2199023255551) ji30 x9_30 x10_14 x11_30 l0 (l0.length : Int) (wrap64 (x24_1 + 1)) bt168.2.1 bt168.2.2.1 bt168.2.2.2.1 bt168.2.2.2.2) else (some false))) else (weighbridgelaw11_ClockRuns.l0 kj34 l1 (Go.bits .and .i64 a2 2199023255551) ji30 x9_30 x10_14 x11_30 l0 (l0.length : Int) (wrap64 (x24_1 + 1)) bt163.2.1 bt163.2.2.1 bt163.2.2.2.1 bt163.2.2.2.2)) else (some false))) else (some false)) = some r := H
                                      have A39 := Aside0.mk A390
                                      clear A390
                                      by_cases c40 : t158 = ji30
                                      · rw [if_pos c40] at H
                                        have c40b0 : (t158 == ji30) = true := beq_iff_eq.mpr c40
                                        have c40b1 : (t158 != ji30) = false := bne_eq_false_iff_eq.mpr c40
                                        clear c40
                                        replace H := Option.bind_eq_some_iff.mp H
                                        obtain ⟨⟨t163, t164, t165, t166, t167⟩, A410, H⟩ := H
                                        replace H : (if (t163 == (decide (ji30 ≥ 4611686018427387904))) = true then (if x9_30 < 4611686018427387904 then ((clock_Clock_Held.f t164 t165 t166 t167 (Go.bits .and .i64 a2 2199023255551)).bind fun bt168 => (if bt168.1 = x14_34 then (weighbridgelaw11_ClockRuns.l0 kj34 l1 (Go.bits .and .i64 a2 2199023255551) ji30 x9_30 x10_14 x11_30 l0 (l0.length : Int) (wrap64 (x24_1 + 1)) bt168.2.1 bt168.2.2.1 bt168.2.2.2.1 bt168.2.2.2.2) else (some false))) else (weighbridgelaw11_ClockRuns.l0 kj34 l1 (Go.bits .and .i64 a2 2199023255551) ji30 x9_30 x10_14 x11_30 l0 (l0.length : Int) (wrap64 (x24_1 + 1)) t164 t165 t166 t167)) else (some false)) = some r := H
                                        have A41 := Aside0.mk A410
                                        clear A410
                                        by_cases c42 : (t163 == (decide (ji30 ≥ 4611686018427387904))) = true
                                        · rw [if_pos c42] at H
                                          have c42b0 : (t163 == (decide (ji30 ≥ 4611686018427387904))) = true := c42
                                          (try (have c42b1 : decide (t163 = (decide (ji30 ≥ 4611686018427387904))) = true := by simpa using c42))
                                          (try (have c42b2 : (t163 == (decide (ji30 ≥ 4611686018427387904))) = true := by simpa using c42))
                                          clear c42
                                          by_cases c43 : x9_30 < 4611686018427387904
                                          · rw [if_pos c43] at H
                                            have c43b0 : decide (x9_30 < 4611686018427387904) = true := decide_eq_true c43
                                            clear c43
                                            replace H := Option.bind_eq_some_iff.mp H
                                            obtain ⟨⟨t168, t169, t170, t171, t172⟩, A440, H⟩ := H
                                            replace H : (if t168 = x14_34 then (weighbridgelaw11_ClockRuns.l0 kj34 l1 (Go.bits .and .i64 a2 2199023255551) ji30 x9_30 x10_14 x11_30 l0 (l0.length : Int) (wrap64 (x24_1 + 1)) t169 t170 t171 t172) else (some false)) = some r := H
                                            have A44 := Aside0.mk A440
                                            clear A440
                                            by_cases c45 : t168 = x14_34
                                            · rw [if_pos c45] at H
                                              have c45b0 : (t168 == x14_34) = true := beq_iff_eq.mpr c45
                                              have c45b1 : (t168 != x14_34) = false := bne_eq_false_iff_eq.mpr c45
                                              clear c45
                                              have H' := Aside0.mk H
                                              clear H
                                              go_wp2_with (first | ((with_reducible refine gate_callee (f := 8) rfl ?_); refine goesL_ (some 67) rfl rfl Try.func8 (by kernel_rfl) rfl #[.pointer (some ⟨gb136, 0, none⟩), .int .i64 (rd l0 x24_1)] rfl (by (try simp only [List.map_toArray, List.map_cons, List.map_nil]); first | done | rfl | (simp only [List.length_drop, List.length_take]; rfl)) ?_; (with_reducible refine (clock_Clock_Read.calls gb136 x137000_14 x137001_14 x137002_14 x137003_14 (rd l0 x24_1) t153 t154 t155 t156 t157 w _ ?side1 ?side2 A37.out).mono ?_); (case side1 => repeat (first | (with_reducible first | exact HI136.out | apply IsS25.alloc | apply IsS25.drewN | apply IsS25.drew | apply IsS25.set_0 | apply IsS25.set_1 | apply IsS25.set_2 | apply IsS25.set_3) | exact HI136.out)); (case side2 => repeat (first | (with_reducible first | exact HB.out | apply below_alloc | apply pw_below_drewN | apply below_drew1 | refine below_set ?_ (IsS25.ge HI136.out)) | exact HB.out)); rintro e w46 ⟨rfl, hi, hb, hk⟩; refine ⟨_, rfl, ?_⟩; have n0_ := Aside0.mk (hb); have n1_ := Aside0.mk (hi); clear HB; clear HI136; have HB := n0_; have HI136 := n1_; clear n0_ n1_; (try clear hb); (try clear hb2); (try clear hk); (try clear hi)) | (go_at_call 10; (with_reducible refine (clock_Clock_Now.calls gb136 t154 t155 t156 t157 t158 t159 t160 t161 t162 w _ ?side1 ?side2 A39.out).mono ?_); (case side1 => repeat (first | (with_reducible first | exact HI136.out | apply IsS25.alloc | apply IsS25.drewN | apply IsS25.drew | apply IsS25.set_0 | apply IsS25.set_1 | apply IsS25.set_2 | apply IsS25.set_3) | exact HI136.out)); (case side2 => repeat (first | (with_reducible first | exact HB.out | apply below_alloc | apply pw_below_drewN | apply below_drew1 | refine below_set ?_ (IsS25.ge HI136.out)) | exact HB.out)); rintro e w47 ⟨rfl, hi, hb, hk⟩; have n0_ := Aside0.mk (hb); have n1_ := Aside0.mk (hi); clear HB; clear HI136; have HB := n0_; have HI136 := n1_; clear n0_ n1_; (try clear hb); (try clear hb2); (try clear hk); (try clear hi)) | (go_at_call 12; (with_reducible refine (clock_Clock_Over.calls gb136 t159 t160 t161 t162 t163 t164 t165 t166 t167 w _ ?side1 ?side2 A41.out).mono ?_); (case side1 => repeat (first | (with_reducible first | exact HI136.out | apply IsS25.alloc | apply IsS25.drewN | apply IsS25.drew | apply IsS25.set_0 | apply IsS25.set_1 | apply IsS25.set_2 | apply IsS25.set_3) | exact HI136.out)); (case side2 => repeat (first | (with_reducible first | exact HB.out | apply below_alloc | apply pw_below_drewN | apply below_drew1 | refine below_set ?_ (IsS25.ge HI136.out)) | exact HB.out)); rintro e w48 ⟨rfl, hi, hb, hk⟩; have n0_ := Aside0.mk (hb); have n1_ := Aside0.mk (hi); clear HB; clear HI136; have HB := n0_; have HI136 := n1_; clear n0_ n1_; (try clear hb); (try clear hb2); (try clear hk); (try clear hi)) | (go_at_call 9; (with_reducible refine (clock_Clock_Held.calls gb136 t164 t165 t166 t167 (Go.bits .and .i64 a2 2199023255551) t168 t169 t170 t171 t172 w _ ?side1 ?side2 A44.out).mono ?_); (case side1 => repeat (first | (with_reducible first | exact HI136.out | apply IsS25.alloc | apply IsS25.drewN | apply IsS25.drew | apply IsS25.set_0 | apply IsS25.set_1 | apply IsS25.set_2 | apply IsS25.set_3) | exact HI136.out)); (case side2 => repeat (first | (with_reducible first | exact HB.out | apply below_alloc | apply pw_below_drewN | apply below_drew1 | refine below_set ?_ (IsS25.ge HI136.out)) | exact HB.out)); rintro e w49 ⟨rfl, hi, hb, hk⟩; have n0_ := Aside0.mk (hb); have n1_ := Aside0.mk (hi); clear HB; clear HI136; have HB := n0_; have HI136 := n1_; clear n0_ n1_; (try clear hb); (try clear hb2); (try clear hk); (try clear hi)))
                                              go_roundg kj34
                                              case measure => have := HK1.out; have := HJ12.out; have := HJ14.out; have := HJ30.out; have := HJ32.out; have := HJ34.out; omega
                                              case rel => exact ⟨(ji30), (x9_30), (x10_14), (x11_30), (wrap64 (x24_1 + 1)), (t169), (t170), (t171), (t172), (by first | rfl | (simp; done) | (simp only [← hji30] <;> (first | rfl | simp)) | (simp [*]; done)), (by first | rfl | (simp; done) | (simp [*]; done)), (by first | rfl | (simp; done) | (simp [*]; done)), (by first | rfl | (simp; done) | (simp [*]; done)), (by first | rfl | (simp; done) | (simp [*]; done)), H', ⟨by have := HK1.out; have := HJ12.out; have := HJ14.out; have := HJ30.out; have := HJ32.out; have := HJ34.out; omega⟩, ⟨by repeat (first | (with_reducible first | exact HI136.out | apply IsS25.alloc | apply IsS25.drewN | apply IsS25.drew | apply IsS25.set_0 | apply IsS25.set_1 | apply IsS25.set_2 | apply IsS25.set_3) | exact HI136.out)⟩, ⟨by repeat (first | (with_reducible first | exact HB.out | apply below_alloc | apply pw_below_drewN | apply below_drew1 | refine below_set ?_ (IsS25.ge HI136.out)) | exact HB.out)⟩⟩
                                            · rw [if_neg c45] at H
                                              have c45b0 : (t168 == x14_34) = false := beq_eq_false_iff_ne.mpr c45
                                              have c45b1 : (t168 != x14_34) = true := bne_iff_ne.mpr c45
                                              obtain rfl := Option.some.inj H
                                              go_wp2_with (first | ((with_reducible refine gate_callee (f := 8) rfl ?_); refine goesL_ (some 67) rfl rfl Try.func8 (by kernel_rfl) rfl #[.pointer (some ⟨gb136, 0, none⟩), .int .i64 (rd l0 x24_1)] rfl (by (try simp only [List.map_toArray, List.map_cons, List.map_nil]); first | done | rfl | (simp only [List.length_drop, List.length_take]; rfl)) ?_; (with_reducible refine (clock_Clock_Read.calls gb136 x137000_14 x137001_14 x137002_14 x137003_14 (rd l0 x24_1) t153 t154 t155 t156 t157 w _ ?side1 ?side2 A37.out).mono ?_); (case side1 => repeat (first | (with_reducible first | exact HI136.out | apply IsS25.alloc | apply IsS25.drewN | apply IsS25.drew | apply IsS25.set_0 | apply IsS25.set_1 | apply IsS25.set_2 | apply IsS25.set_3) | exact HI136.out)); (case side2 => repeat (first | (with_reducible first | exact HB.out | apply below_alloc | apply pw_below_drewN | apply below_drew1 | refine below_set ?_ (IsS25.ge HI136.out)) | exact HB.out)); rintro e w50 ⟨rfl, hi, hb, hk⟩; refine ⟨_, rfl, ?_⟩; have n0_ := Aside0.mk (hb); have n1_ := Aside0.mk (hi); clear HB; clear HI136; have HB := n0_; have HI136 := n1_; clear n0_ n1_; (try clear hb); (try clear hb2); (try clear hk); (try clear hi)) | (go_at_call 10; (with_reducible refine (clock_Clock_Now.calls gb136 t154 t155 t156 t157 t158 t159 t160 t161 t162 w _ ?side1 ?side2 A39.out).mono ?_); (case side1 => repeat (first | (with_reducible first | exact HI136.out | apply IsS25.alloc | apply IsS25.drewN | apply IsS25.drew | apply IsS25.set_0 | apply IsS25.set_1 | apply IsS25.set_2 | apply IsS25.set_3) | exact HI136.out)); (case side2 => repeat (first | (with_reducible first | exact HB.out | apply below_alloc | apply pw_below_drewN | apply below_drew1 | refine below_set ?_ (IsS25.ge HI136.out)) | exact HB.out)); rintro e w51 ⟨rfl, hi, hb, hk⟩; have n0_ := Aside0.mk (hb); have n1_ := Aside0.mk (hi); clear HB; clear HI136; have HB := n0_; have HI136 := n1_; clear n0_ n1_; (try clear hb); (try clear hb2); (try clear hk); (try clear hi)) | (go_at_call 12; (with_reducible refine (clock_Clock_Over.calls gb136 t159 t160 t161 t162 t163 t164 t165 t166 t167 w _ ?side1 ?side2 A41.out).mono ?_); (case side1 => repeat (first | (with_reducible first | exact HI136.out | apply IsS25.alloc | apply IsS25.drewN | apply IsS25.drew | apply IsS25.set_0 | apply IsS25.set_1 | apply IsS25.set_2 | apply IsS25.set_3) | exact HI136.out)); (case side2 => repeat (first | (with_reducible first | exact HB.out | apply below_alloc | apply pw_below_drewN | apply below_drew1 | refine below_set ?_ (IsS25.ge HI136.out)) | exact HB.out)); rintro e w52 ⟨rfl, hi, hb, hk⟩; have n0_ := Aside0.mk (hb); have n1_ := Aside0.mk (hi); clear HB; clear HI136; have HB := n0_; have HI136 := n1_; clear n0_ n1_; (try clear hb); (try clear hb2); (try clear hk); (try clear hi)) | (go_at_call 9; (with_reducible refine (clock_Clock_Held.calls gb136 t164 t165 t166 t167 (Go.bits .and .i64 a2 2199023255551) t168 t169 t170 t171 t172 w _ ?side1 ?side2 A44.out).mono ?_); (case side1 => repeat (first | (with_reducible first | exact HI136.out | apply IsS25.alloc | apply IsS25.drewN | apply IsS25.drew | apply IsS25.set_0 | apply IsS25.set_1 | apply IsS25.set_2 | apply IsS25.set_3) | exact HI136.out)); (case side2 => repeat (first | (with_reducible first | exact HB.out | apply below_alloc | apply pw_below_drewN | apply below_drew1 | refine below_set ?_ (IsS25.ge HI136.out)) | exact HB.out)); rintro e w53 ⟨rfl, hi, hb, hk⟩; have n0_ := Aside0.mk (hb); have n1_ := Aside0.mk (hi); clear HB; clear HI136; have HB := n0_; have HI136 := n1_; clear n0_ n1_; (try clear hb); (try clear hb2); (try clear hk); (try clear hi)))
                                              go_ret
                                              exact ⟨by first | rfl | (simp [errW_none, errW_some] <;> rfl) | (simp only [← hji30]; first | rfl | (simp [errW_none, errW_some] <;> rfl)) | (simp [*, errW_none, errW_some] <;> rfl), by repeat (first | (with_reducible first | exact HB.out | apply below_alloc | apply pw_below_drewN | apply below_drew1 | refine below_set ?_ (IsS25.ge HI136.out)) | exact HB.out)⟩
                                          · rw [if_neg c43] at H
                                            have c43b0 : decide (x9_30 < 4611686018427387904) = false := decide_eq_false c43
                                            clear c43
                                            have H' := Aside0.mk H
                                            clear H
                                            go_wp2_with (first | ((with_reducible refine gate_callee (f := 8) rfl ?_); refine goesL_ (some 67) rfl rfl Try.func8 (by kernel_rfl) rfl #[.pointer (some ⟨gb136, 0, none⟩), .int .i64 (rd l0 x24_1)] rfl (by (try simp only [List.map_toArray, List.map_cons, List.map_nil]); first | done | rfl | (simp only [List.length_drop, List.length_take]; rfl)) ?_; (with_reducible refine (clock_Clock_Read.calls gb136 x137000_14 x137001_14 x137002_14 x137003_14 (rd l0 x24_1) t153 t154 t155 t156 t157 w _ ?side1 ?side2 A37.out).mono ?_); (case side1 => repeat (first | (with_reducible first | exact HI136.out | apply IsS25.alloc | apply IsS25.drewN | apply IsS25.drew | apply IsS25.set_0 | apply IsS25.set_1 | apply IsS25.set_2 | apply IsS25.set_3) | exact HI136.out)); (case side2 => repeat (first | (with_reducible first | exact HB.out | apply below_alloc | apply pw_below_drewN | apply below_drew1 | refine below_set ?_ (IsS25.ge HI136.out)) | exact HB.out)); rintro e w54 ⟨rfl, hi, hb, hk⟩; refine ⟨_, rfl, ?_⟩; have n0_ := Aside0.mk (hb); have n1_ := Aside0.mk (hi); clear HB; clear HI136; have HB := n0_; have HI136 := n1_; clear n0_ n1_; (try clear hb); (try clear hb2); (try clear hk); (try clear hi)) | (go_at_call 10; (with_reducible refine (clock_Clock_Now.calls gb136 t154 t155 t156 t157 t158 t159 t160 t161 t162 w _ ?side1 ?side2 A39.out).mono ?_); (case side1 => repeat (first | (with_reducible first | exact HI136.out | apply IsS25.alloc | apply IsS25.drewN | apply IsS25.drew | apply IsS25.set_0 | apply IsS25.set_1 | apply IsS25.set_2 | apply IsS25.set_3) | exact HI136.out)); (case side2 => repeat (first | (with_reducible first | exact HB.out | apply below_alloc | apply pw_below_drewN | apply below_drew1 | refine below_set ?_ (IsS25.ge HI136.out)) | exact HB.out)); rintro e w55 ⟨rfl, hi, hb, hk⟩; have n0_ := Aside0.mk (hb); have n1_ := Aside0.mk (hi); clear HB; clear HI136; have HB := n0_; have HI136 := n1_; clear n0_ n1_; (try clear hb); (try clear hb2); (try clear hk); (try clear hi)) | (go_at_call 12; (with_reducible refine (clock_Clock_Over.calls gb136 t159 t160 t161 t162 t163 t164 t165 t166 t167 w _ ?side1 ?side2 A41.out).mono ?_); (case side1 => repeat (first | (with_reducible first | exact HI136.out | apply IsS25.alloc | apply IsS25.drewN | apply IsS25.drew | apply IsS25.set_0 | apply IsS25.set_1 | apply IsS25.set_2 | apply IsS25.set_3) | exact HI136.out)); (case side2 => repeat (first | (with_reducible first | exact HB.out | apply below_alloc | apply pw_below_drewN | apply below_drew1 | refine below_set ?_ (IsS25.ge HI136.out)) | exact HB.out)); rintro e w56 ⟨rfl, hi, hb, hk⟩; have n0_ := Aside0.mk (hb); have n1_ := Aside0.mk (hi); clear HB; clear HI136; have HB := n0_; have HI136 := n1_; clear n0_ n1_; (try clear hb); (try clear hb2); (try clear hk); (try clear hi)))
                                            go_roundg kj34
                                            case measure => have := HK1.out; have := HJ12.out; have := HJ14.out; have := HJ30.out; have := HJ32.out; have := HJ34.out; omega
                                            case rel => exact ⟨(ji30), (x9_30), (x10_14), (x11_30), (wrap64 (x24_1 + 1)), (t164), (t165), (t166), (t167), (by first | rfl | (simp; done) | (simp only [← hji30] <;> (first | rfl | simp)) | (simp [*]; done)), (by first | rfl | (simp; done) | (simp [*]; done)), (by first | rfl | (simp; done) | (simp [*]; done)), (by first | rfl | (simp; done) | (simp [*]; done)), (by first | rfl | (simp; done) | (simp [*]; done)), H', ⟨by have := HK1.out; have := HJ12.out; have := HJ14.out; have := HJ30.out; have := HJ32.out; have := HJ34.out; omega⟩, ⟨by repeat (first | (with_reducible first | exact HI136.out | apply IsS25.alloc | apply IsS25.drewN | apply IsS25.drew | apply IsS25.set_0 | apply IsS25.set_1 | apply IsS25.set_2 | apply IsS25.set_3) | exact HI136.out)⟩, ⟨by repeat (first | (with_reducible first | exact HB.out | apply below_alloc | apply pw_below_drewN | apply below_drew1 | refine below_set ?_ (IsS25.ge HI136.out)) | exact HB.out)⟩⟩
                                        · rw [if_neg c42] at H
                                          have c42b0 : (t163 == (decide (ji30 ≥ 4611686018427387904))) = false := by simpa using c42
                                          (try (have c42b1 : decide (t163 = (decide (ji30 ≥ 4611686018427387904))) = false := by simpa using c42))
                                          (try (have c42b2 : (t163 == (decide (ji30 ≥ 4611686018427387904))) = false := by simpa using c42))
                                          (try (have c42b3 : ¬ (t163 = (decide (ji30 ≥ 4611686018427387904))) := by simpa using c42))
                                          clear c42
                                          obtain rfl := Option.some.inj H
                                          go_wp2_with (first | ((with_reducible refine gate_callee (f := 8) rfl ?_); refine goesL_ (some 67) rfl rfl Try.func8 (by kernel_rfl) rfl #[.pointer (some ⟨gb136, 0, none⟩), .int .i64 (rd l0 x24_1)] rfl (by (try simp only [List.map_toArray, List.map_cons, List.map_nil]); first | done | rfl | (simp only [List.length_drop, List.length_take]; rfl)) ?_; (with_reducible refine (clock_Clock_Read.calls gb136 x137000_14 x137001_14 x137002_14 x137003_14 (rd l0 x24_1) t153 t154 t155 t156 t157 w _ ?side1 ?side2 A37.out).mono ?_); (case side1 => repeat (first | (with_reducible first | exact HI136.out | apply IsS25.alloc | apply IsS25.drewN | apply IsS25.drew | apply IsS25.set_0 | apply IsS25.set_1 | apply IsS25.set_2 | apply IsS25.set_3) | exact HI136.out)); (case side2 => repeat (first | (with_reducible first | exact HB.out | apply below_alloc | apply pw_below_drewN | apply below_drew1 | refine below_set ?_ (IsS25.ge HI136.out)) | exact HB.out)); rintro e w57 ⟨rfl, hi, hb, hk⟩; refine ⟨_, rfl, ?_⟩; have n0_ := Aside0.mk (hb); have n1_ := Aside0.mk (hi); clear HB; clear HI136; have HB := n0_; have HI136 := n1_; clear n0_ n1_; (try clear hb); (try clear hb2); (try clear hk); (try clear hi)) | (go_at_call 10; (with_reducible refine (clock_Clock_Now.calls gb136 t154 t155 t156 t157 t158 t159 t160 t161 t162 w _ ?side1 ?side2 A39.out).mono ?_); (case side1 => repeat (first | (with_reducible first | exact HI136.out | apply IsS25.alloc | apply IsS25.drewN | apply IsS25.drew | apply IsS25.set_0 | apply IsS25.set_1 | apply IsS25.set_2 | apply IsS25.set_3) | exact HI136.out)); (case side2 => repeat (first | (with_reducible first | exact HB.out | apply below_alloc | apply pw_below_drewN | apply below_drew1 | refine below_set ?_ (IsS25.ge HI136.out)) | exact HB.out)); rintro e w58 ⟨rfl, hi, hb, hk⟩; have n0_ := Aside0.mk (hb); have n1_ := Aside0.mk (hi); clear HB; clear HI136; have HB := n0_; have HI136 := n1_; clear n0_ n1_; (try clear hb); (try clear hb2); (try clear hk); (try clear hi)) | (go_at_call 12; (with_reducible refine (clock_Clock_Over.calls gb136 t159 t160 t161 t162 t163 t164 t165 t166 t167 w _ ?side1 ?side2 A41.out).mono ?_); (case side1 => repeat (first | (with_reducible first | exact HI136.out | apply IsS25.alloc | apply IsS25.drewN | apply IsS25.drew | apply IsS25.set_0 | apply IsS25.set_1 | apply IsS25.set_2 | apply IsS25.set_3) | exact HI136.out)); (case side2 => repeat (first | (with_reducible first | exact HB.out | apply below_alloc | apply pw_below_drewN | apply below_drew1 | refine below_set ?_ (IsS25.ge HI136.out)) | exact HB.out)); rintro e w59 ⟨rfl, hi, hb, hk⟩; have n0_ := Aside0.mk (hb); have n1_ := Aside0.mk (hi); clear HB; clear HI136; have HB := n0_; have HI136 := n1_; clear n0_ n1_; (try clear hb); (try clear hb2); (try clear hk); (try clear hi)))
                                          go_ret
                                          exact ⟨by first | rfl | (simp [errW_none, errW_some] <;> rfl) | (simp only [← hji30]; first | rfl | (simp [errW_none, errW_some] <;> rfl)) | (simp [*, errW_none, errW_some] <;> rfl), by repeat (first | (with_reducible first | exact HB.out | apply below_alloc | apply pw_below_drewN | apply below_drew1 | refine below_set ?_ (IsS25.ge HI136.out)) | exact HB.out)⟩
                                      · rw [if_neg c40] at H
                                        have c40b0 : (t158 == ji30) = false := beq_eq_false_iff_ne.mpr c40
                                        have c40b1 : (t158 != ji30) = true := bne_iff_ne.mpr c40
                                        obtain rfl := Option.some.inj H
                                        go_wp2_with (first | ((with_reducible refine gate_callee (f := 8) rfl ?_); refine goesL_ (some 67) rfl rfl Try.func8 (by kernel_rfl) rfl #[.pointer (some ⟨gb136, 0, none⟩), .int .i64 (rd l0 x24_1)] rfl (by (try simp only [List.map_toArray, List.map_cons, List.map_nil]); first | done | rfl | (simp only [List.length_drop, List.length_take]; rfl)) ?_; (with_reducible refine (clock_Clock_Read.calls gb136 x137000_14 x137001_14 x137002_14 x137003_14 (rd l0 x24_1) t153 t154 t155 t156 t157 w _ ?side1 ?side2 A37.out).mono ?_); (case side1 => repeat (first | (with_reducible first | exact HI136.out | apply IsS25.alloc | apply IsS25.drewN | apply IsS25.drew | apply IsS25.set_0 | apply IsS25.set_1 | apply IsS25.set_2 | apply IsS25.set_3) | exact HI136.out)); (case side2 => repeat (first | (with_reducible first | exact HB.out | apply below_alloc | apply pw_below_drewN | apply below_drew1 | refine below_set ?_ (IsS25.ge HI136.out)) | exact HB.out)); rintro e w60 ⟨rfl, hi, hb, hk⟩; refine ⟨_, rfl, ?_⟩; have n0_ := Aside0.mk (hb); have n1_ := Aside0.mk (hi); clear HB; clear HI136; have HB := n0_; have HI136 := n1_; clear n0_ n1_; (try clear hb); (try clear hb2); (try clear hk); (try clear hi)) | (go_at_call 10; (with_reducible refine (clock_Clock_Now.calls gb136 t154 t155 t156 t157 t158 t159 t160 t161 t162 w _ ?side1 ?side2 A39.out).mono ?_); (case side1 => repeat (first | (with_reducible first | exact HI136.out | apply IsS25.alloc | apply IsS25.drewN | apply IsS25.drew | apply IsS25.set_0 | apply IsS25.set_1 | apply IsS25.set_2 | apply IsS25.set_3) | exact HI136.out)); (case side2 => repeat (first | (with_reducible first | exact HB.out | apply below_alloc | apply pw_below_drewN | apply below_drew1 | refine below_set ?_ (IsS25.ge HI136.out)) | exact HB.out)); rintro e w61 ⟨rfl, hi, hb, hk⟩; have n0_ := Aside0.mk (hb); have n1_ := Aside0.mk (hi); clear HB; clear HI136; have HB := n0_; have HI136 := n1_; clear n0_ n1_; (try clear hb); (try clear hb2); (try clear hk); (try clear hi)))
                                        go_ret
                                        exact ⟨by first | rfl | (simp [errW_none, errW_some] <;> rfl) | (simp only [← hji30]; first | rfl | (simp [errW_none, errW_some] <;> rfl)) | (simp [*, errW_none, errW_some] <;> rfl), by repeat (first | (with_reducible first | exact HB.out | apply below_alloc | apply pw_below_drewN | apply below_drew1 | refine below_set ?_ (IsS25.ge HI136.out)) | exact HB.out)⟩
                                    · rw [if_neg c38] at H
                                      have c38b0 : (t153 == ji30) = false := beq_eq_false_iff_ne.mpr c38
                                      have c38b1 : (t153 != ji30) = true := bne_iff_ne.mpr c38
                                      obtain rfl := Option.some.inj H
                                      go_wp2_with (first | ((with_reducible refine gate_callee (f := 8) rfl ?_); refine goesL_ (some 67) rfl rfl Try.func8 (by kernel_rfl) rfl #[.pointer (some ⟨gb136, 0, none⟩), .int .i64 (rd l0 x24_1)] rfl (by (try simp only [List.map_toArray, List.map_cons, List.map_nil]); first | done | rfl | (simp only [List.length_drop, List.length_take]; rfl)) ?_; (with_reducible refine (clock_Clock_Read.calls gb136 x137000_14 x137001_14 x137002_14 x137003_14 (rd l0 x24_1) t153 t154 t155 t156 t157 w _ ?side1 ?side2 A37.out).mono ?_); (case side1 => repeat (first | (with_reducible first | exact HI136.out | apply IsS25.alloc | apply IsS25.drewN | apply IsS25.drew | apply IsS25.set_0 | apply IsS25.set_1 | apply IsS25.set_2 | apply IsS25.set_3) | exact HI136.out)); (case side2 => repeat (first | (with_reducible first | exact HB.out | apply below_alloc | apply pw_below_drewN | apply below_drew1 | refine below_set ?_ (IsS25.ge HI136.out)) | exact HB.out)); rintro e w62 ⟨rfl, hi, hb, hk⟩; refine ⟨_, rfl, ?_⟩; have n0_ := Aside0.mk (hb); have n1_ := Aside0.mk (hi); clear HB; clear HI136; have HB := n0_; have HI136 := n1_; clear n0_ n1_; (try clear hb); (try clear hb2); (try clear hk); (try clear hi)))
                                      go_ret
                                      exact ⟨by first | rfl | (simp [errW_none, errW_some] <;> rfl) | (simp only [← hji30]; first | rfl | (simp [errW_none, errW_some] <;> rfl)) | (simp [*, errW_none, errW_some] <;> rfl), by repeat (first | (with_reducible first | exact HB.out | apply below_alloc | apply pw_below_drewN | apply below_drew1 | refine below_set ?_ (IsS25.ge HI136.out)) | exact HB.out)⟩
              · rw [if_neg c12] at H
                exact absurd H (by simp)
            · rw [if_neg c11] at H
              exact absurd H (by simp)
          · rw [if_neg c10] at H
            have c10b0 : decide (x24_1 < (l0.length : Int)) = false := decide_eq_false c10
            clear c10
            obtain rfl := Option.some.inj H
            go_wp2
            go_ret
            exact ⟨by first | rfl | (simp [errW_none, errW_some] <;> rfl) | (simp [*, errW_none, errW_some] <;> rfl), by repeat (first | (with_reducible first | exact HB.out | apply below_alloc | apply pw_below_drewN | apply below_drew1 | refine below_set ?_ (IsS25.ge HI136.out)) | exact HB.out)⟩
  · replace c5 := Bool.eq_false_iff.mpr c5
    subst c5
    have H1 : (some false) = some r := by rw [if_neg (show ¬ (false = true) by decide)] at H; exact H
    clear H
    have H := H1
    clear H1
    obtain rfl := Option.some.inj H
    go_enter Try.func5, Try.ntmps5
    go_wp2_with (first | ((with_reducible refine gate_callee (f := 7) rfl ?_); refine goesL_ (some 15) rfl rfl Try.func7 (by kernel_rfl) rfl #[] rfl (by (try simp only [List.map_toArray, List.map_cons, List.map_nil]); first | done | rfl | (simp only [List.length_drop, List.length_take]; rfl)) ?_; (with_reducible refine (weighbridgelaw11_fit.calls  false _ A4.out).mono ?_); rintro e w63 ⟨rfl, hb⟩; refine ⟨_, rfl, ?_⟩; have n0_ := Aside0.mk (below_step (by repeat (first | (with_reducible first | exact HB.out | apply below_alloc | apply pw_below_drewN | apply below_drew1) | exact HB.out)) hb); clear HB; have HB := n0_; clear n0_; (try clear hb); (try clear hb2); (try clear hk); (try clear hi)))
    go_ret
    exact ⟨by first | rfl | (simp [errW_none, errW_some] <;> rfl) | (simp [*, errW_none, errW_some] <;> rfl), by repeat (first | (with_reducible first | exact HB.out | apply below_alloc | apply pw_below_drewN | apply below_drew1) | exact HB.out)⟩

/-- THE ONE PURE STATEMENT of weighbridgelaw11_ClockRuns. -/
def weighbridgelaw11_ClockRuns.Pure : Prop := ∀ (l0 : List Int) (l1 : List Bool) (a2 : Int), l0.length ≤ maxLen → (∀ x ∈ l0, (Lit.int .i64 x).wf = true) → l1.length ≤ maxLen → (∀ x ∈ l1, True) → (Lit.int .i64 a2).wf = true → ∃ k, weighbridgelaw11_ClockRuns.f k l0 l1 a2 = some true
theorem weighbridgelaw11_ClockRuns.walk (P : weighbridgelaw11_ClockRuns.Pure) (A0 : Option Addr) (c0 : Nat) (l0 : List Int) (A1 : Option Addr) (c1 : Nat) (l1 : List Bool) (a2 : Int) (w : World) (hr0 : Kd.C (Kd.int .i64) w A0 l0.length l0) (hc0 : l0.length ≤ c0) (hr1 : Kd.C Kd.bool w A1 l1.length l1) (hc1 : l1.length ≤ c1) (g0 : l0.length ≤ maxLen) (g1 : (∀ x ∈ l0, (Lit.int .i64 x).wf = true)) (g2 : l1.length ≤ maxLen) (g3 : (∀ x ∈ l1, True)) (g4 : (Lit.int .i64 a2).wf = true) :
    Calls Try.prog 5 #[.slice A0 l0.length c0, .slice A1 l1.length c1, .int .i64 a2] w fun e w' => e = .returned (.bool true) ∧ Below w.heap.size w w' := by
  obtain ⟨k, h⟩ := P l0 l1 a2 g0 g1 g2 g3 g4
  refine (weighbridgelaw11_ClockRuns.calls k A0 c0 l0 A1 c1 l1 a2 true w hr0 hc0 hr1 hc1 h).mono ?_
  rintro e w' ⟨rfl, hd⟩
  exact ⟨rfl, hd⟩

end Go.Proofs.Ytbkngofbedgecaa.QClockRuns
