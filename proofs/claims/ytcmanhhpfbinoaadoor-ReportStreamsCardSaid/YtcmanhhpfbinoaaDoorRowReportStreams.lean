/- The row of the law ReportStreams: whatever the input, it returns true, and the input reads as it did. No condition. -/
import Derived.Test.YtcmanhhpfbinoaaDoorTie
import Derived.Test.YtcmanhhpfbinoaaDoorCards
import Derived.Test.YtcmanhhpfbinoaaDoorRows
import Derived.Test.YtcmanhhpfbinoaaDoorTAll
import Derived.Test.YtcmanhhpfbinoaaDoorLReportStreams
import Derived.Test.YtcmanhhpfbinoaaDoorSLaid
import Derived.WalkKit
import Derived.ProofKit
import Derived.OpenShut
import Derived.ShutString
import Derived.ChangeOld
import Derived.Below
import Derived.SizedLaws
import Derived.LaidMore
import Derived.Lay
import Derived.MakeChecks
import Derived.Stop.Joined
namespace Go.Proofs.YtcmanhhpfbinoaaDoor.reportStreams
open Go.ChangeShapes Go.WideShapes Go.ChangeAt Go.RowKit Go.Proofs.YtcmanhhpfbinoaaDoor.Can
open Go.ChangeMaps (open_string shut_string)
set_option linter.unusedVariables false
theorem own : ownKnob Tryd.prog.godebug = none := by kernel_rfl
theorem laidOut : laidOutB Tryd.prog = true := by kernel_rfl
theorem op3 : Ar Tryd.prog 3 (Enc.int .i64) (fun x => (Lit.int .i64 x).wf = true) := Ar.int Tryd.underlying3 (by kernel_rfl)
theorem op2 : Ar Tryd.prog 2 (Enc.int .i64) (fun x => (Lit.int .i64 x).wf = true) := Ar.int Tryd.underlying2 (by kernel_rfl)
theorem op23 : Ar Tryd.prog 23 (Enc.pair (Enc.int .i64) (Enc.pair (Enc.int .i64) (Enc.int .i64))) (fun x => ((Lit.int .i64 x.1).wf = true ∧ (Lit.int .i64 x.2.1).wf = true ∧ (Lit.int .i64 x.2.2).wf = true)) := Ar.struct Tryd.underlying23 (by kernel_rfl) (Ar.fsCons op3 (Ar.fsCons op2 (Ar.fsOne op2)))
theorem op5 : Ar Tryd.prog 5 (Enc.int .u8) (fun x => (Lit.int .u8 x).wf = true) := Ar.int Tryd.underlying5 (by kernel_rfl)
set_option maxRecDepth 100000 in
theorem lifted (os : Os) (started : os.Started) (H : Type) (enc : TypeId × Value → H) :
    ReturnsInHanded {} Tryd.checked os 6 .any (fun w args => (Rows.reportStreamsSpec.pre enc Tryd.prog Tryd.f6 Rows.reportStreamsRow.domain false w args ∧ laidMetH Tryd.prog Rows.reportStreamsRow.laid w) ∧ sizedMet enc Tryd.prog Tryd.f6 (OpenSpec.ofChange Rows.reportStreamsSpec) false w args) (Rows.reportStreamsSpec.post enc Tryd.prog Tryd.f6 false true false false) := by
  refine returnsInHanded_of_change_and (C := Tryd.checked) (X := fun w _ => laidMetH Tryd.prog Rows.reportStreamsRow.laid w) (fun _ _ _ hh h => h.of_heap hh) own started (by kernel_rfl) Tryd.func6
    (ChangeSpec.witness_shaped (enc := enc) (C := Tryd.checked) (os := os) (X := fun w _ => laidMetH Tryd.prog Rows.reportStreamsRow.laid w) false (World.laidAll Tryd.prog os Rows.reportStreamsRow.laid) #[.slice none 0 0, .slice none 0 0] 8 (World.laidAll_os _ _ _)
      (World.shaped_of_ZipB (by kernel_rfl) (by kernel_rfl)) (by kernel_rfl) (by kernel_rfl) (by kernel_rfl)
      (by rw [MakeChecks.laidMetH_plain _ _ _ (by kernel_rfl)]; exact laidMet_laidAll _ (by kernel_rfl) (by kernel_rfl))) ?_
  intro W base args ds gs before hval0 hW hcnd hsz0 hL _
  have hL2 : laidMet Tryd.prog Rows.reportStreamsRow.laid W := by rw [← MakeChecks.laidMetH_plain _ _ _ (by kernel_rfl)]; exact hL
  obtain ⟨hP, hG⟩ := pows_laid (P := Tryd.prog) (t := 79) (e := 59) (n := 20) (by kernel_rfl) (by kernel_rfl) (by kernel_rfl) (by kernel_rfl) (by kernel_rfl) (by kernel_rfl) hL2
  clear hL hL2
  have hsz : (DataW.weightsEach Tryd.prog (Tryd.f6.params.toList ++ Rows.reportStreamsSpec.plain.varTypes Tryd.prog) (ds ++ gs)).all (· ≤ reachBytes) = true := hsz0
  have hval : ∀ (j : Nat) t v, Tryd.f6.params[j]? = some t → args[j]? = some v → Value.okWide Tryd.prog W .any base t v := hval0
  have hW' := hW
  obtain ⟨p, q, hA0, hV, rfl, hfz, hnd⟩ := hW
  have hA : DataW.TrodAll enc Tryd.prog W 0 (fun _ => true) true Tryd.f6.params.toList args.toList ds p := hA0
  rw [Tryd.params6] at hA hval hsz
  obtain ⟨v0, vs0, d0, ds0, p0, q0, hargs, rfl, rfl, h0, r0⟩ := trodAll_cons hA
  obtain ⟨v1, vs1, d1, ds1, p1, q1, rfl, rfl, rfl, h1, r1⟩ := trodAll_cons r0
  obtain ⟨rfl, rfl, rfl⟩ := trodAll_nil r1
  obtain rfl : args = #[v0, v1] := by cases args; simp_all
  obtain ⟨rfl, rfl⟩ := trodVars_none hV
  obtain ⟨a0, len0, cap0, rfl⟩ := okWide_slice Tryd.underlying45 (hval 0 45 v0 rfl rfl)
  have hb0 := okWide_slice_lt Tryd.underlying45 (hval 0 45 _ rfl rfl)
  have k0 := h0
  have lt0 : ∀ x ∈ p0, x.block < W.heap.size := by obtain ⟨m, hm⟩ := k0; exact DataW.trod_lt m _ _ _ hm
  obtain ⟨l0, u0, hS0, hR0, hl0, hc0, hm0, hg0⟩ := slice_in Tryd.underlying45 op23 (by decide) hb0 h0
  obtain ⟨a1, len1, cap1, rfl⟩ := okWide_slice Tryd.underlying38 (hval 1 38 v1 rfl rfl)
  have hb1 := okWide_slice_lt Tryd.underlying38 (hval 1 38 _ rfl rfl)
  have k1 := h1
  have lt1 : ∀ x ∈ p1, x.block < W.heap.size := by obtain ⟨m, hm⟩ := k1; exact DataW.trod_lt m _ _ _ hm
  obtain ⟨l1, u1, hS1, hR1, hl1, hc1, hm1, hg1⟩ := slice_in Tryd.underlying38 op5 (by decide) hb1 h1
  clear hA0 hval0 hsz0 hsz
  refine (law_sound progs (reportStreams_law (idHeap W) hP u0 l0 hS0 (by omega) hg0 u1 l1 hS1 (by omega) hg1) (VL.cons hR0 (VL.cons hR1 (VL.nil _))) (Emb.id Tryd.prog W) (idMap_free Tryd.prog W) hG).mono fun e W' ⟨he, bel⟩ => ?_
  subst he
  exact ⟨_, rfl, _, _, _, [], _, [], hW', trodAll_mk1 (shut_bool Tryd.underlying4 _), (trodAll_cons_mk (Below.trod laidOut (by kernel_rfl) (of_decide_eq_true (by kernel_rfl)) k0 bel lt0) (trodAll_cons_mk (Below.trod laidOut (by kernel_rfl) (of_decide_eq_true (by kernel_rfl)) k1 bel lt1) trodAll_mk0)), rfl, bel.frame _, fun h => by cases h⟩
theorem over : Rows.reportStreamsRow.holds Tryd.pinned (OpenSpec.ofChange Rows.reportStreamsSpec) :=
  OpenClaim.holds_of_wide 6 Tryd.f6 rfl rfl rfl rfl rfl rfl rfl ⟨rfl, rfl, rfl, rfl, rfl⟩ rfl rfl rfl rfl rfl (by kernel_rfl) Tryd.func6 (by kernel_rfl)
    (of_decide_eq_true (by kernel_rfl)) (by unfold Func.isWrapper; first | (rw [if_pos (by decide +kernel)]; kernel_rfl) | (rw [if_neg (by decide +kernel)]; exact ⟨rfl, rfl⟩))
    (fun os started H enc _ => lifted os started H enc)
theorem proved : Rows.ReportStreamsSaid := over
end Go.Proofs.YtcmanhhpfbinoaaDoor.reportStreams
namespace Go.Proofs.YtcmanhhpfbinoaaDoor
/-- The row, under a short name, for the claim. -/
theorem reportStreams_holds : Rows.ReportStreamsSaid := reportStreams.proved
open Go
theorem reportStreams_card : Rows.ReportStreamsCardSaid :=
  Claim7.holds_tied_plain_at .later [] [.data, .data, .data] true (true, "244aac0bb6b8f27bd6fd3019de1654f6bae916aff85a576fbba28fb8c96c8f3a") false reportStreams_holds (fun _ h => by cases h) (by kernel_rfl) (fun _ h => by cases h) reportStreams_row_tie rfl ⟨rfl, rfl⟩ (by kernel_rfl) rfl
    (fun f fn hf hfn => by
      obtain rfl : f = 6 := Option.some.inj ((show Tryd.prog.funcNamed "weighbridge/weighbridgelaw21.ReportStreams" = some 6 by kernel_rfl).symm.trans hf) |>.symm
      obtain rfl : fn = Tryd.f6 := (Option.some.inj (Tryd.func6.symm.trans hfn)).symm
      exact ⟨by kernel_rfl, fun j t ht => by
        rw [Tryd.params6] at ht
        have hm : t ∈ [45, 38] := by simpa using Array.mem_of_getElem? ht
        have hall : ([45, 38].all fun u => !Tryd.prog.wantsStandIn u) = true := by kernel_rfl
        exact (show Tryd.prog.wantsStandIn t = false by simpa using List.all_eq_true.1 hall t hm)⟩)
    (by kernel_rfl)
end Go.Proofs.YtcmanhhpfbinoaaDoor
