/- The row of the law ReportAny: whatever the input, it returns true, and the input reads as it did. No condition. -/
import Derived.Test.YtcmanhhpfbinoaaDoorTie
import Derived.Test.YtcmanhhpfbinoaaDoorCards
import Derived.Test.YtcmanhhpfbinoaaDoorRows
import Derived.Test.YtcmanhhpfbinoaaDoorTAll
import Derived.Test.YtcmanhhpfbinoaaDoorLReportAny
import Derived.Test.YtcmanhhpfbinoaaDoorSLaid
import Derived.WalkKit
import Derived.ProofKit
import Derived.OpenShut
import Derived.ShutString
import Derived.ChangeOld
import Derived.Below
import Derived.SizedLaws
import Derived.LaidMore
import Derived.Lay
import Derived.MakeChecks
import Derived.Stop.Joined
namespace Go.Proofs.YtcmanhhpfbinoaaDoor.reportAny
open Go.ChangeShapes Go.WideShapes Go.ChangeAt Go.RowKit Go.Proofs.YtcmanhhpfbinoaaDoor.Can
open Go.ChangeMaps (open_string shut_string)
set_option linter.unusedVariables false
theorem own : ownKnob Tryd.prog.godebug = none := by kernel_rfl
theorem laidOut : laidOutB Tryd.prog = true := by kernel_rfl
theorem op5 : Ar Tryd.prog 5 (Enc.int .u8) (fun x => (Lit.int .u8 x).wf = true) := Ar.int Tryd.underlying5 (by kernel_rfl)
set_option maxRecDepth 100000 in
theorem lifted (os : Os) (started : os.Started) (H : Type) (enc : TypeId × Value → H) :
    ReturnsInHanded {} Tryd.checked os 4 .any (fun w args => (Rows.reportAnySpec.pre enc Tryd.prog Tryd.f4 Rows.reportAnyRow.domain false w args ∧ laidMetH Tryd.prog Rows.reportAnyRow.laid w) ∧ sizedMet enc Tryd.prog Tryd.f4 (OpenSpec.ofChange Rows.reportAnySpec) false w args) (Rows.reportAnySpec.post enc Tryd.prog Tryd.f4 false true false false) := by
  refine returnsInHanded_of_change_and (C := Tryd.checked) (X := fun w _ => laidMetH Tryd.prog Rows.reportAnyRow.laid w) (fun _ _ _ hh h => h.of_heap hh) own started (by kernel_rfl) Tryd.func4
    (ChangeSpec.witness_shaped (enc := enc) (C := Tryd.checked) (os := os) (X := fun w _ => laidMetH Tryd.prog Rows.reportAnyRow.laid w) false (World.laidAll Tryd.prog os Rows.reportAnyRow.laid) #[.slice none 0 0] 8 (World.laidAll_os _ _ _)
      (World.shaped_of_ZipB (by kernel_rfl) (by kernel_rfl)) (by kernel_rfl) (by kernel_rfl) (by kernel_rfl)
      (by rw [MakeChecks.laidMetH_plain _ _ _ (by kernel_rfl)]; exact laidMet_laidAll _ (by kernel_rfl) (by kernel_rfl))) ?_
  intro W base args ds gs before hval0 hW hcnd hsz0 hL _
  have hL2 : laidMet Tryd.prog Rows.reportAnyRow.laid W := by rw [← MakeChecks.laidMetH_plain _ _ _ (by kernel_rfl)]; exact hL
  obtain ⟨hP, hG⟩ := pows_laid (P := Tryd.prog) (t := 79) (e := 59) (n := 20) (by kernel_rfl) (by kernel_rfl) (by kernel_rfl) (by kernel_rfl) (by kernel_rfl) (by kernel_rfl) hL2
  clear hL hL2
  have hsz : (DataW.weightsEach Tryd.prog (Tryd.f4.params.toList ++ Rows.reportAnySpec.plain.varTypes Tryd.prog) (ds ++ gs)).all (· ≤ reachBytes) = true := hsz0
  have hval : ∀ (j : Nat) t v, Tryd.f4.params[j]? = some t → args[j]? = some v → Value.okWide Tryd.prog W .any base t v := hval0
  have hW' := hW
  obtain ⟨p, q, hA0, hV, rfl, hfz, hnd⟩ := hW
  have hA : DataW.TrodAll enc Tryd.prog W 0 (fun _ => true) true Tryd.f4.params.toList args.toList ds p := hA0
  rw [Tryd.params4] at hA hval hsz
  obtain ⟨v0, vs0, d0, ds0, p0, q0, hargs, rfl, rfl, h0, r0⟩ := trodAll_cons hA
  obtain ⟨rfl, rfl, rfl⟩ := trodAll_nil r0
  obtain rfl : args = #[v0] := by cases args; simp_all
  obtain ⟨rfl, rfl⟩ := trodVars_none hV
  obtain ⟨a0, len0, cap0, rfl⟩ := okWide_slice Tryd.underlying38 (hval 0 38 v0 rfl rfl)
  have hb0 := okWide_slice_lt Tryd.underlying38 (hval 0 38 _ rfl rfl)
  have k0 := h0
  have lt0 : ∀ x ∈ p0, x.block < W.heap.size := by obtain ⟨m, hm⟩ := k0; exact DataW.trod_lt m _ _ _ hm
  obtain ⟨l0, u0, hS0, hR0, hl0, hc0, hm0, hg0⟩ := slice_in Tryd.underlying38 op5 (by decide) hb0 h0
  clear hA0 hval0 hsz0 hsz
  refine (law_sound progs (reportAny_law (idHeap W) hP u0 l0 hS0 (by omega) hg0) (VL.cons hR0 (VL.nil _)) (Emb.id Tryd.prog W) (idMap_free Tryd.prog W) hG).mono fun e W' ⟨he, bel⟩ => ?_
  subst he
  exact ⟨_, rfl, _, _, _, [], _, [], hW', trodAll_mk1 (shut_bool Tryd.underlying4 _), (trodAll_cons_mk (Below.trod laidOut (by kernel_rfl) (of_decide_eq_true (by kernel_rfl)) k0 bel lt0) trodAll_mk0), rfl, bel.frame _, fun h => by cases h⟩
theorem over : Rows.reportAnyRow.holds Tryd.pinned (OpenSpec.ofChange Rows.reportAnySpec) :=
  OpenClaim.holds_of_wide 4 Tryd.f4 rfl rfl rfl rfl rfl rfl rfl ⟨rfl, rfl, rfl, rfl, rfl⟩ rfl rfl rfl rfl rfl (by kernel_rfl) Tryd.func4 (by kernel_rfl)
    (of_decide_eq_true (by kernel_rfl)) (by unfold Func.isWrapper; first | (rw [if_pos (by decide +kernel)]; kernel_rfl) | (rw [if_neg (by decide +kernel)]; exact ⟨rfl, rfl⟩))
    (fun os started H enc _ => lifted os started H enc)
theorem proved : Rows.ReportAnySaid := over
end Go.Proofs.YtcmanhhpfbinoaaDoor.reportAny
namespace Go.Proofs.YtcmanhhpfbinoaaDoor
/-- The row, under a short name, for the claim. -/
theorem reportAny_holds : Rows.ReportAnySaid := reportAny.proved
open Go
theorem reportAny_card : Rows.ReportAnyCardSaid :=
  Claim7.holds_tied_plain_at .later [] [.data, .data, .data] true (true, "244aac0bb6b8f27bd6fd3019de1654f6bae916aff85a576fbba28fb8c96c8f3a") false reportAny_holds (fun _ h => by cases h) (by kernel_rfl) (fun _ h => by cases h) reportAny_row_tie rfl ⟨rfl, rfl⟩ (by kernel_rfl) rfl
    (fun f fn hf hfn => by
      obtain rfl : f = 4 := Option.some.inj ((show Tryd.prog.funcNamed "weighbridge/weighbridgelaw21.ReportAny" = some 4 by kernel_rfl).symm.trans hf) |>.symm
      obtain rfl : fn = Tryd.f4 := (Option.some.inj (Tryd.func4.symm.trans hfn)).symm
      exact ⟨by kernel_rfl, fun j t ht => by
        rw [Tryd.params4] at ht
        have hm : t ∈ [38] := by simpa using Array.mem_of_getElem? ht
        have hall : ([38].all fun u => !Tryd.prog.wantsStandIn u) = true := by kernel_rfl
        exact (show Tryd.prog.wantsStandIn t = false by simpa using List.all_eq_true.1 hall t hm)⟩)
    (by kernel_rfl)
end Go.Proofs.YtcmanhhpfbinoaaDoor
