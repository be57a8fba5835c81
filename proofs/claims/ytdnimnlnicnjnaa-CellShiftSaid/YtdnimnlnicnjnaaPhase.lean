/- Inside a region that draws: what is held from here on may be another thing than before, where every operation that is still to come is one behind which nothing of the former is owed. No condition beyond those stated. -/
import Derived.Test.YtdnimnlnicnjnaaWWords
import Derived.Test.YtdnimnlnicnjnaaWLast
namespace Go.Proofs.Ytdnimnlnicnjnaa.Phase
open Go Go.RowKit Go.Proofs.YtdnimnlnicnjnaaW.PrintWords Go.Proofs.YtdnimnlnicnjnaaW.PrintLast
section
variable {P : Program} {ops : Array Oper} {Q : Exit → Act → World → Prop} {md : Region.Mode} {S : World → Prop} {ds : List Nat}
theorem switch_all {S' : World → Prop} {ds' : List Nat} : ∀ (fuel : Nat) (l : Array Bool) (a : Act) (w : World), (∀ i, l.getD i true = false → i ∈ ds) → wpAnyLast P md ops Q S' ds' fuel l a w → wpAnyLast P md ops Q S ds fuel l a w
  | 0, _, _, _, _, h => h
  | fuel + 1, l, a, w, hd, h => by
    refine ⟨h.1, fun i hi => ?_⟩
    have hu : l.getD i true = false := (mem_ready.1 hi).1
    refine wpOp_mono (fun a' w' h' => ⟨fun hn => absurd (hd i hu) hn, switch_all fuel _ a' w' (fun j hj => ?_) h'.2⟩) (h.2 i hi)
    by_cases hij : i = j
    · subst hij; exact hd i hu
    · rw [getD_set_ne true hij] at hj; exact hd j hj
/-- The same with the check worked out: ds counts all that is not listed. -/
theorem switch_ {S' : World → Prop} {fuel n : Nat} {l : Array Bool} {a : Act} {w : World} (ds' : List Nat) (hn : l.size = n) (hd : (List.range n).all (fun i => l.getD i true || ds.contains i) = true) (hS : S' w)
    (h : S' w → wpAnyLast P md ops Q S' ds' fuel l a w) : wpAnyLast P md ops Q S ds fuel l a w := by
  refine switch_all fuel l a w (fun i hi => ?_) (h hS)
  by_cases hlt : i < n
  · have := List.all_eq_true.1 hd i (List.mem_range.2 hlt)
    rw [hi, Bool.false_or] at this
    simpa using this
  · have hge : l.size ≤ i := by omega
    simp [Array.getElem?_eq_none hge] at hi
end
end Go.Proofs.Ytdnimnlnicnjnaa.Phase
