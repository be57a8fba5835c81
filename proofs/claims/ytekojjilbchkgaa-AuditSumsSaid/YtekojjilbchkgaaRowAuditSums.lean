/- The row of the law AuditSums: whatever the input, it returns true, and the input reads as it did. No condition. -/
import Derived.Test.YtekojjilbchkgaaRows
import Derived.Test.YtekojjilbchkgaaTAll
import Derived.Test.YtekojjilbchkgaaLAuditSums
import Derived.Test.YtekojjilbchkgaaKDAll
import Derived.WalkKit
import Derived.ProofKit
import Derived.OpenShut
import Derived.ShutString
import Derived.ChangeOld
import Derived.Below
import Derived.SizedLaws
namespace Go.Proofs.Ytekojjilbchkgaa.auditSums
open Go.ChangeShapes Go.WideShapes Go.ChangeAt Go.RowKit Go.Proofs.Ytekojjilbchkgaa.Can
open Go.ChangeMaps (open_string shut_string)
set_option linter.unusedVariables false
theorem own : ownKnob Try.prog.godebug = none := by kernel_rfl
theorem laidOut : laidOutB Try.prog = true := by kernel_rfl
theorem op3 : Ar Try.prog 3 (Enc.int .i64) (fun x => (Lit.int .i64 x).wf = true) := Ar.int Try.underlying3 (by kernel_rfl)
theorem op9 : Ar Try.prog 9 Enc.str (fun x => x.size ≤ maxLen) := Ar.str Try.underlying9 (by kernel_rfl)
theorem op2 : Ar Try.prog 2 (Enc.int .i64) (fun x => (Lit.int .i64 x).wf = true) := Ar.int Try.underlying2 (by kernel_rfl)
theorem op24 : Ar Try.prog 24 (Enc.pair (Enc.int .i64) (Enc.pair Enc.str (Enc.pair (Enc.int .i64) (Enc.int .i64)))) (fun x => ((Lit.int .i64 x.1).wf = true ∧ x.2.1.size ≤ maxLen ∧ (Lit.int .i64 x.2.2.1).wf = true ∧ (Lit.int .i64 x.2.2.2).wf = true)) := Ar.struct Try.underlying24 (by kernel_rfl) (Ar.fsCons op3 (Ar.fsCons op9 (Ar.fsCons op2 (Ar.fsOne op2))))
set_option maxRecDepth 100000 in
theorem lifted (os : Os) (started : os.Started) (H : Type) (enc : TypeId × Value → H) :
    ReturnsInHanded {} Try.checked os 4 .any (Rows.auditSumsSpec.pre6 enc Try.prog Try.f4 Rows.auditSumsRow.domain false) (Rows.auditSumsSpec.post enc Try.prog Try.f4 false true false false) := by
  refine returnsInHanded_of_change_sized (C := Try.checked) own started (by kernel_rfl) Try.func4
    (ChangeSpec.witness6 (enc := enc) (C := Try.checked) false ⟨#[], #[.slice none 0 0, .int .i64 0, .int .i64 0], []⟩ 8 (by kernel_rfl) (by kernel_rfl) (by kernel_rfl) (by kernel_rfl)) ?_
  intro W base args ds gs before hval0 hW hcnd hsz0 _
  have hsz : (DataW.weightsEach Try.prog (Try.f4.params.toList ++ Rows.auditSumsSpec.plain.varTypes Try.prog) (ds ++ gs)).all (· ≤ reachBytes) = true := hsz0
  have hval : ∀ (j : Nat) t v, Try.f4.params[j]? = some t → args[j]? = some v → Value.okWide Try.prog W .any base t v := hval0
  have hW' := hW
  obtain ⟨p, q, hA0, hV, rfl, hfz, hnd⟩ := hW
  have hA : DataW.TrodAll enc Try.prog W 0 (fun _ => true) true Try.f4.params.toList args.toList ds p := hA0
  rw [Try.params4] at hA hval hsz
  obtain ⟨v0, vs0, d0, ds0, p0, q0, hargs, rfl, rfl, h0, r0⟩ := trodAll_cons hA
  obtain ⟨v1, vs1, d1, ds1, p1, q1, rfl, rfl, rfl, h1, r1⟩ := trodAll_cons r0
  obtain ⟨v2, vs2, d2, ds2, p2, q2, rfl, rfl, rfl, h2, r2⟩ := trodAll_cons r1
  obtain ⟨rfl, rfl, rfl⟩ := trodAll_nil r2
  obtain rfl : args = #[v0, v1, v2] := by cases args; simp_all
  obtain ⟨rfl, rfl⟩ := trodVars_none hV
  obtain ⟨a0, len0, cap0, rfl⟩ := okWide_slice Try.underlying22 (hval 0 22 v0 rfl rfl)
  have hb0 := okWide_slice_lt Try.underlying22 (hval 0 22 _ rfl rfl)
  have k0 := h0
  have lt0 : ∀ x ∈ p0, x.block < W.heap.size := by obtain ⟨m, hm⟩ := k0; exact DataW.trod_lt m _ _ _ hm
  obtain ⟨l0, u0, hS0, hR0, hl0, hc0, hm0, hg0⟩ := slice_in Try.underlying22 op24 (by decide) hb0 h0
  obtain ⟨a1, rfl, rfl, rfl, y1⟩ := open_int Try.underlying2 (hval 1 2 v1 rfl rfl) h1
  obtain ⟨a2, rfl, rfl, rfl, y2⟩ := open_int Try.underlying2 (hval 2 2 v2 rfl rfl) h2
  clear hA0 hval0 hsz0 hsz
  refine (law_soundE progs allD_ok Try.func4 fnd4 (auditSums_law (idHeap W) u0 l0 hS0 (by omega) hg0 a1 y1 a2 y2) (VL.cons hR0 (VL.cons (.int _ _) (VL.cons (.int _ _) (VL.nil _)))) (Emb.id Try.prog W) (idMap_free Try.prog W)).mono fun e W' ⟨he, bel⟩ => ?_
  subst he
  exact ⟨_, rfl, _, _, _, [], _, [], hW', trodAll_mk1 (shut_bool Try.underlying4 _), (trodAll_cons_mk (Below.trod laidOut (by kernel_rfl) (of_decide_eq_true (by kernel_rfl)) k0 bel lt0) (trodAll_cons_mk (shut_int Try.underlying2 y1) (trodAll_cons_mk (shut_int Try.underlying2 y2) trodAll_mk0))), rfl, bel.frame _, fun h => by cases h⟩
theorem over : Rows.auditSumsRow.holds Try.pinned (OpenSpec.ofChange Rows.auditSumsSpec) :=
  OpenClaim.holds_of_wide 4 Try.f4 rfl rfl rfl rfl rfl rfl rfl ⟨rfl, rfl, rfl, rfl, rfl⟩ rfl rfl rfl rfl rfl (by kernel_rfl) Try.func4 (by kernel_rfl)
    (of_decide_eq_true (by kernel_rfl)) (by unfold Func.isWrapper; first | (rw [if_pos (by decide +kernel)]; kernel_rfl) | (rw [if_neg (by decide +kernel)]; exact ⟨rfl, rfl⟩))
    (fun os started H enc _ => lifted os started H enc)
theorem proved : Rows.AuditSumsSaid := over
end Go.Proofs.Ytekojjilbchkgaa.auditSums
namespace Go.Proofs.Ytekojjilbchkgaa
/-- The row, under a short name, for the claim. -/
theorem auditSums_holds : Rows.AuditSumsSaid := auditSums.proved
end Go.Proofs.Ytekojjilbchkgaa
