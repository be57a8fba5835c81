/- The row of the law KeysRuns: whatever the input, it returns true, and the input reads as it did. No condition. -/
import Derived.Test.YticompilonkfgaaRows
import Derived.Test.YticompilonkfgaaTKeys
import Derived.Test.YticompilonkfgaaLKeysRuns
import Derived.WalkKit
import Derived.ProofKit
import Derived.OpenShut
import Derived.ShutString
import Derived.ChangeOld
import Derived.Below
import Derived.SizedLaws
namespace Go.Proofs.Yticompilonkfgaa.keysRuns
open Go.ChangeShapes Go.WideShapes Go.ChangeAt Go.RowKit Go.Proofs.Yticompilonkfgaa.Can
open Go.ChangeMaps (open_string shut_string)
set_option linter.unusedVariables false
theorem own : ownKnob Try.prog.godebug = none := by kernel_rfl
theorem laidOut : laidOutB Try.prog = true := by kernel_rfl
theorem op3 : Ar Try.prog 3 (Enc.int .i64) (fun x => (Lit.int .i64 x).wf = true) := Ar.int Try.underlying3 (by kernel_rfl)
theorem op9 : Ar Try.prog 9 Enc.str (fun x => x.size ≤ maxLen) := Ar.str Try.underlying9 (by kernel_rfl)
theorem op39 : Ar Try.prog 39 (Enc.pair (Enc.int .i64) (Enc.pair (Enc.int .i64) Enc.str)) (fun x => ((Lit.int .i64 x.1).wf = true ∧ (Lit.int .i64 x.2.1).wf = true ∧ x.2.2.size ≤ maxLen)) := Ar.struct Try.underlying39 (by kernel_rfl) (Ar.fsCons op3 (Ar.fsCons op3 (Ar.fsOne op9)))
set_option maxRecDepth 100000 in
theorem lifted (os : Os) (started : os.Started) (H : Type) (enc : TypeId × Value → H) :
    ReturnsInHanded {} Try.checked os 5 .any (Rows.keysRunsSpec.pre6 enc Try.prog Try.f5 Rows.keysRunsRow.domain false) (Rows.keysRunsSpec.post enc Try.prog Try.f5 false true false false) := by
  refine returnsInHanded_of_change_sized (C := Try.checked) own started (by kernel_rfl) Try.func5
    (ChangeSpec.witness6 (enc := enc) (C := Try.checked) false ⟨#[], #[.int .i64 0, .slice none 0 0], []⟩ 8 (by kernel_rfl) (by kernel_rfl) (by kernel_rfl) (by kernel_rfl)) ?_
  intro W base args ds gs before hval0 hW hcnd hsz0 _
  have hsz : (DataW.weightsEach Try.prog (Try.f5.params.toList ++ Rows.keysRunsSpec.plain.varTypes Try.prog) (ds ++ gs)).all (· ≤ reachBytes) = true := hsz0
  have hval : ∀ (j : Nat) t v, Try.f5.params[j]? = some t → args[j]? = some v → Value.okWide Try.prog W .any base t v := hval0
  have hW' := hW
  obtain ⟨p, q, hA0, hV, rfl, hfz, hnd⟩ := hW
  have hA : DataW.TrodAll enc Try.prog W 0 (fun _ => true) true Try.f5.params.toList args.toList ds p := hA0
  rw [Try.params5] at hA hval hsz
  obtain ⟨v0, vs0, d0, ds0, p0, q0, hargs, rfl, rfl, h0, r0⟩ := trodAll_cons hA
  obtain ⟨v1, vs1, d1, ds1, p1, q1, rfl, rfl, rfl, h1, r1⟩ := trodAll_cons r0
  obtain ⟨rfl, rfl, rfl⟩ := trodAll_nil r1
  obtain rfl : args = #[v0, v1] := by cases args; simp_all
  obtain ⟨rfl, rfl⟩ := trodVars_none hV
  obtain ⟨a0, rfl, rfl, rfl, y0⟩ := open_int Try.underlying3 (hval 0 3 v0 rfl rfl) h0
  obtain ⟨a1, len1, cap1, rfl⟩ := okWide_slice Try.underlying35 (hval 1 35 v1 rfl rfl)
  have hb1 := okWide_slice_lt Try.underlying35 (hval 1 35 _ rfl rfl)
  have k1 := h1
  have lt1 : ∀ x ∈ p1, x.block < W.heap.size := by obtain ⟨m, hm⟩ := k1; exact DataW.trod_lt m _ _ _ hm
  obtain ⟨l1, u1, hS1, hR1, hl1, hc1, hm1, hg1⟩ := slice_in Try.underlying35 op39 (by decide) hb1 h1
  clear hA0 hval0 hsz0 hsz
  refine (law_sound progs (keysRuns_law (idHeap W) a0 y0 u1 l1 hS1 (by omega) hg1) (VL.cons (.int _ _) (VL.cons hR1 (VL.nil _))) (Emb.id Try.prog W) (idMap_free Try.prog W)).mono fun e W' ⟨he, bel⟩ => ?_
  subst he
  exact ⟨_, rfl, _, _, _, [], _, [], hW', trodAll_mk1 (shut_bool Try.underlying4 _), (trodAll_cons_mk (shut_int Try.underlying3 y0) (trodAll_cons_mk (Below.trod laidOut (by kernel_rfl) (of_decide_eq_true (by kernel_rfl)) k1 bel lt1) trodAll_mk0)), rfl, bel.frame _, fun h => by cases h⟩
theorem over : Rows.keysRunsRow.holds Try.pinned (OpenSpec.ofChange Rows.keysRunsSpec) :=
  OpenClaim.holds_of_wide 5 Try.f5 rfl rfl rfl rfl rfl rfl rfl ⟨rfl, rfl, rfl, rfl, rfl⟩ rfl rfl rfl rfl rfl (by kernel_rfl) Try.func5 (by kernel_rfl)
    (of_decide_eq_true (by kernel_rfl)) (by unfold Func.isWrapper; first | (rw [if_pos (by decide +kernel)]; kernel_rfl) | (rw [if_neg (by decide +kernel)]; exact ⟨rfl, rfl⟩))
    (fun os started H enc _ => lifted os started H enc)
theorem proved : Rows.KeysRunsSaid := over
end Go.Proofs.Yticompilonkfgaa.keysRuns
namespace Go.Proofs.Yticompilonkfgaa
/-- The row, under a short name, for the claim. -/
theorem keysRuns_holds : Rows.KeysRunsSaid := keysRuns.proved
end Go.Proofs.Yticompilonkfgaa
