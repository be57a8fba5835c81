/- From the variables that a row lists to the table that the canonical machine reads. No condition. -/
import Derived.Test.YtcmanhhpfbinoaaDoorSDig
import Derived.Test.YtcmanhhpfbinoaaDoorArg
import Derived.Lib.LaidTab
namespace Go.Proofs.YtcmanhhpfbinoaaDoor.Can
open Go
set_option linter.unusedSimpArgs false
set_option linter.unusedVariables false

theorem pows_laid {P : Program} {W : World} {n1 n2 : String} {d1 d2 : DataW Unit} {t e : TypeId} {n : Nat} (hg : P.globalNamed "internal/strconv.uint64pow10" = some 0) (hty : (P.globals[0]?).map (·.type) = some t) (ht : P.underlying t = some (.array n e))
    (he : P.underlying e = some (.int .u64)) (hce : P.cellsOf e = 1) (hct : P.cellsOf t = n)
    (h : laidMet P [(n1, d1), (n2, d2), ("internal/strconv.uint64pow10", Lib.tabData .u64 pows)] W) : HasPows (idHeap W) ∧ GlobOK (idMap P W) := by
  obtain ⟨ps, ⟨_, _, _, _, _, _, _, _, _, _, ⟨_, _, _, _, _, _, _, _, _, _, ⟨g', t', cs, fuel, p, q, hg', ht', hvar, hd, _, _⟩, _⟩, _⟩, _⟩ := h
  obtain rfl := Option.some.inj (hg.symm.trans hg')
  obtain rfl := Option.some.inj (hty.symm.trans ht')
  have hcs := Lib.cells_of_tab ht he hce hct hd
  simp only [World.var?, hg, Option.bind_some] at hvar
  split at hvar
  · rename_i cs' tt fr hW
    obtain rfl := Option.some.inj hvar
    have h0 : 0 < W.heap.size := by
      rcases Nat.lt_or_ge 0 W.heap.size with h | h
      · exact h
      · rw [Array.getElem?_eq_none h] at hW; simp at hW
    refine ⟨⟨h0, tt, ?_⟩, fun g hg => ?_⟩
    · show idObj W.heap[0]? = _
      rw [hW]
      show Obj.cells (cs'.toList.map plainV) tt .ro = _
      rw [hcs]
      rfl
    · have hg1 : g < GLN := by simpa [Nat.blt_eq] using hg
      have hg0 : g = 0 := by unfold GLN at hg1; omega
      subst hg0
      refine ⟨⟨0, 0, totOf W.heap[0]?, unitOf P W.heap[0]?, false⟩, ?_, rfl, rfl⟩
      unfold idMap
      rw [if_pos h0]
  · cases hvar
end Go.Proofs.YtcmanhhpfbinoaaDoor.Can
