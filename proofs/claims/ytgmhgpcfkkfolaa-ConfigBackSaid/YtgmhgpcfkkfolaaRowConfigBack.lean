/- The row of the law ConfigBack: whatever the input, it returns true, and the input reads as it did. No condition. -/
import Derived.Test.YtgmhgpcfkkfolaaRows
import Derived.Test.YtgmhgpcfkkfolaaTAll
import Derived.Test.YtgmhgpcfkkfolaaLConfigBack
import Derived.WalkKit
import Derived.ProofKit
import Derived.OpenShut
import Derived.ShutString
import Derived.ChangeOld
import Derived.Below
import Derived.SizedLaws
namespace Go.Proofs.Ytgmhgpcfkkfolaa.configBack
open Go.ChangeShapes Go.WideShapes Go.ChangeAt Go.RowKit Go.Proofs.Ytgmhgpcfkkfolaa.Can
open Go.ChangeMaps (open_string shut_string)
set_option linter.unusedVariables false
theorem own : ownKnob Try.prog.godebug = none := by kernel_rfl
theorem laidOut : laidOutB Try.prog = true := by kernel_rfl
theorem op2 : Ar Try.prog 2 (Enc.int .i64) (fun x => (Lit.int .i64 x).wf = true) := Ar.int Try.underlying2 (by kernel_rfl)
theorem ops2 : ArS Try.prog 2 (Rd.flat (Enc.int .i64) (fun x => (Lit.int .i64 x).wf = true)) := ArS.flat op2
theorem op3 : Ar Try.prog 3 (Enc.int .i64) (fun x => (Lit.int .i64 x).wf = true) := Ar.int Try.underlying3 (by kernel_rfl)
theorem ops3 : ArS Try.prog 3 (Rd.flat (Enc.int .i64) (fun x => (Lit.int .i64 x).wf = true)) := ArS.flat op3
theorem op4 : Ar Try.prog 4 Enc.bool (fun _ => True) := Ar.bool Try.underlying4 (by kernel_rfl)
theorem op24 : Ar Try.prog 24 (Enc.pair (Enc.int .i64) (Enc.pair (Enc.int .i64) (Enc.pair (Enc.int .i64) (Enc.pair (Enc.int .i64) (Enc.pair (Enc.int .i64) (Enc.pair (Enc.int .i64) (Enc.pair (Enc.int .i64) (Enc.pair (Enc.int .i64) Enc.bool)))))))) (fun x => ((Lit.int .i64 x.1).wf = true ∧ (Lit.int .i64 x.2.1).wf = true ∧ (Lit.int .i64 x.2.2.1).wf = true ∧ (Lit.int .i64 x.2.2.2.1).wf = true ∧ (Lit.int .i64 x.2.2.2.2.1).wf = true ∧ (Lit.int .i64 x.2.2.2.2.2.1).wf = true ∧ (Lit.int .i64 x.2.2.2.2.2.2.1).wf = true ∧ (Lit.int .i64 x.2.2.2.2.2.2.2.1).wf = true ∧ True)) := Ar.struct Try.underlying24 (by kernel_rfl) (Ar.fsCons op2 (Ar.fsCons op2 (Ar.fsCons op2 (Ar.fsCons op3 (Ar.fsCons op3 (Ar.fsCons op3 (Ar.fsCons op3 (Ar.fsCons op3 (Ar.fsOne op4)))))))))
theorem ops28 : ArS Try.prog 28 (Rd.slice (Enc.pair (Enc.int .i64) (Enc.pair (Enc.int .i64) (Enc.pair (Enc.int .i64) (Enc.pair (Enc.int .i64) (Enc.pair (Enc.int .i64) (Enc.pair (Enc.int .i64) (Enc.pair (Enc.int .i64) (Enc.pair (Enc.int .i64) Enc.bool)))))))) (fun x => ((Lit.int .i64 x.1).wf = true ∧ (Lit.int .i64 x.2.1).wf = true ∧ (Lit.int .i64 x.2.2.1).wf = true ∧ (Lit.int .i64 x.2.2.2.1).wf = true ∧ (Lit.int .i64 x.2.2.2.2.1).wf = true ∧ (Lit.int .i64 x.2.2.2.2.2.1).wf = true ∧ (Lit.int .i64 x.2.2.2.2.2.2.1).wf = true ∧ (Lit.int .i64 x.2.2.2.2.2.2.2.1).wf = true ∧ True))) := ArS.slice Try.underlying28 (by kernel_rfl) op24 (by decide)
theorem ops30 : ArS Try.prog 30 (Rd.pair (Rd.flat (Enc.int .i64) (fun x => (Lit.int .i64 x).wf = true)) (Rd.pair (Rd.flat (Enc.int .i64) (fun x => (Lit.int .i64 x).wf = true)) (Rd.pair (Rd.flat (Enc.int .i64) (fun x => (Lit.int .i64 x).wf = true)) (Rd.slice (Enc.pair (Enc.int .i64) (Enc.pair (Enc.int .i64) (Enc.pair (Enc.int .i64) (Enc.pair (Enc.int .i64) (Enc.pair (Enc.int .i64) (Enc.pair (Enc.int .i64) (Enc.pair (Enc.int .i64) (Enc.pair (Enc.int .i64) Enc.bool)))))))) (fun x => ((Lit.int .i64 x.1).wf = true ∧ (Lit.int .i64 x.2.1).wf = true ∧ (Lit.int .i64 x.2.2.1).wf = true ∧ (Lit.int .i64 x.2.2.2.1).wf = true ∧ (Lit.int .i64 x.2.2.2.2.1).wf = true ∧ (Lit.int .i64 x.2.2.2.2.2.1).wf = true ∧ (Lit.int .i64 x.2.2.2.2.2.2.1).wf = true ∧ (Lit.int .i64 x.2.2.2.2.2.2.2.1).wf = true ∧ True)))))) := ArS.struct Try.underlying29 (by kernel_rfl) (ArS.fsCons ops2 (ArS.fsCons ops3 (ArS.fsCons ops3 (ArS.fsOne ops28))))
set_option maxRecDepth 100000 in
theorem lifted (os : Os) (started : os.Started) (H : Type) (enc : TypeId × Value → H) :
    ReturnsInHanded {} Try.checked os 8 .any (Rows.configBackSpec.pre6 enc Try.prog Try.f8 Rows.configBackRow.domain false) (Rows.configBackSpec.post enc Try.prog Try.f8 false true false false) := by
  refine returnsInHanded_of_change_sized (C := Try.checked) own started (by kernel_rfl) Try.func8
    (ChangeSpec.witness6 (enc := enc) (C := Try.checked) false ⟨#[], #[.agg #[.int .i64 0, .int .i64 0, .int .i64 0, .slice none 0 0], .int .i64 0, .int .u8 0], []⟩ 8 (by kernel_rfl) (by kernel_rfl) (by kernel_rfl) (by kernel_rfl)) ?_
  intro W base args ds gs before hval0 hW hcnd hsz0 _
  have hsz : (DataW.weightsEach Try.prog (Try.f8.params.toList ++ Rows.configBackSpec.plain.varTypes Try.prog) (ds ++ gs)).all (· ≤ reachBytes) = true := hsz0
  have hval : ∀ (j : Nat) t v, Try.f8.params[j]? = some t → args[j]? = some v → Value.okWide Try.prog W .any base t v := hval0
  have hW' := hW
  obtain ⟨p, q, hA0, hV, rfl, hfz, hnd⟩ := hW
  have hA : DataW.TrodAll enc Try.prog W 0 (fun _ => true) true Try.f8.params.toList args.toList ds p := hA0
  rw [Try.params8] at hA hval hsz
  obtain ⟨v0, vs0, d0, ds0, p0, q0, hargs, rfl, rfl, h0, r0⟩ := trodAll_cons hA
  obtain ⟨v1, vs1, d1, ds1, p1, q1, rfl, rfl, rfl, h1, r1⟩ := trodAll_cons r0
  obtain ⟨v2, vs2, d2, ds2, p2, q2, rfl, rfl, rfl, h2, r2⟩ := trodAll_cons r1
  obtain ⟨rfl, rfl, rfl⟩ := trodAll_nil r2
  obtain rfl : args = #[v0, v1, v2] := by cases args; simp_all
  obtain ⟨rfl, rfl⟩ := trodVars_none hV
  obtain ⟨cs0, rfl, hz0⟩ := okWide_struct Try.underlying29 (hval 0 30 v0 rfl rfl)
  have hb0 := okWide_row Try.underlying29 (hval 0 30 _ rfl rfl)
  have k0 := h0
  have lt0 : ∀ x ∈ p0, x.block < W.heap.size := by obtain ⟨m, hm⟩ := k0; exact DataW.trod_lt m _ _ _ hm
  obtain ⟨cc0, x0, hR0, g0⟩ := ArS.agg ops30 hb0 h0
  obtain ⟨a1, rfl, rfl, rfl, y1⟩ := open_int Try.underlying3 (hval 1 3 v1 rfl rfl) h1
  obtain ⟨a2, rfl, rfl, rfl, y2⟩ := open_int Try.underlying5 (hval 2 5 v2 rfl rfl) h2
  clear hA0 hval0 hsz0 hsz
  refine (law_sound progs (configBack_law (idHeap W) cc0 x0 g0 a1 y1 a2 y2) (VL.cons hR0 (VL.cons (.int _ _) (VL.cons (.int _ _) (VL.nil _)))) (Emb.id Try.prog W) (idMap_free Try.prog W)).mono fun e W' ⟨he, bel⟩ => ?_
  subst he
  exact ⟨_, rfl, _, _, _, [], _, [], hW', trodAll_mk1 (shut_bool Try.underlying4 _), (trodAll_cons_mk (Below.trod laidOut (by kernel_rfl) (of_decide_eq_true (by kernel_rfl)) k0 bel lt0) (trodAll_cons_mk (shut_int Try.underlying3 y1) (trodAll_cons_mk (shut_int Try.underlying5 y2) trodAll_mk0))), rfl, bel.frame _, fun h => by cases h⟩
theorem over : Rows.configBackRow.holds Try.pinned (OpenSpec.ofChange Rows.configBackSpec) :=
  OpenClaim.holds_of_wide 8 Try.f8 rfl rfl rfl rfl rfl rfl rfl ⟨rfl, rfl, rfl, rfl, rfl⟩ rfl rfl rfl rfl rfl (by kernel_rfl) Try.func8 (by kernel_rfl)
    (of_decide_eq_true (by kernel_rfl)) (by unfold Func.isWrapper; first | (rw [if_pos (by decide +kernel)]; kernel_rfl) | (rw [if_neg (by decide +kernel)]; exact ⟨rfl, rfl⟩))
    (fun os started H enc _ => lifted os started H enc)
theorem proved : Rows.ConfigBackSaid := over
end Go.Proofs.Ytgmhgpcfkkfolaa.configBack
namespace Go.Proofs.Ytgmhgpcfkkfolaa
/-- The row, under a short name, for the claim. -/
theorem configBack_holds : Rows.ConfigBackSaid := configBack.proved
end Go.Proofs.Ytgmhgpcfkkfolaa
