/- Proved: who is held is held a time that shrinks as time goes on, and ends. For every input; no condition. -/
import Derived.Test.YtbkngofbedgecaaQClockHeldx1
import Derived.Test.YtbkngofbedgecaaBase
namespace Go.Proofs.Ytbkngofbedgecaa.Pure
open Go Go.RowKit Go.Proofs.Ytbkngofbedgecaa Go.Proofs.Ytbkngofbedgecaa.QClockHeld Go.Proofs.YtbkngofbedgecaaW.PrintWords Go.Proofs.YtbkngofbedgecaaW.PrintLast Go.Proofs.YtbkngofbedgecaaW.PrintMore
theorem read_eq (n f : Int) (a rd : Bool) (r : Int) : clock_Clock_Read.f n f a rd r = some (mx (mx n r) 0, mx (mx n r) 0, if rd = true then f else mx (mx n r) 0, a, true) := by
  unfold clock_Clock_Read.f
  cases rd with
  | true => rw [if_pos rfl, if_pos rfl]
  | false => rw [if_neg Bool.false_ne_true, if_neg Bool.false_ne_true]
theorem mx_max (a b : Int) : mx a b = max a b := by unfold mx; omega
theorem rd_wf (l : List Int) (hw : ∀ x ∈ l, (Lit.int .i64 x).wf = true) (i : Int) (h0 : 0 ≤ i) (h1 : i < (l.length : Int)) : -9223372036854775808 ≤ rd l i ∧ rd l i < 9223372036854775808 := by
  have hlt : i.toNat < l.length := by omega
  have hm : rd l i ∈ l := by
    unfold rd
    rw [List.getD_eq_getElem?_getD, List.getElem?_eq_getElem hlt, Option.getD_some]
    exact List.getElem_mem hlt
  exact Base.wf_i64 (hw _ hm)

theorem sum_in (a b : Int) (h0 : -4611686018427387904 ≤ a) (h1 : a ≤ 4611686018427387904) (h2 : 0 ≤ b) (h3 : b < 4611686018427387904) : arith_Sum.f a b = some (a + b) := by
  unfold arith_Sum.f arith_Add.f
  rw [Option.bind_some]
  dsimp only
  rw [Base.w64_in _ (by omega) (by omega), if_pos (by rw [beq_iff_eq, decide_eq_decide]; omega)]
theorem held_eq (n f w : Int) (rd : Bool) (hn0 : 0 ≤ n) (hn : n ≤ 4611686018427387904) (h0 : 0 ≤ f) (h1 : f ≤ 4611686018427387904) (h2 : 0 ≤ w) (h3 : w < 4611686018427387904) : clock_Clock_Held.f n f true rd w = some (max (f + w - n) 0, n, f, true, rd) := by
  unfold clock_Clock_Held.f
  rw [if_pos rfl, sum_in f w (by omega) h1 h2 h3, Option.bind_some, Base.w64_in _ (by omega) (by omega), mx_max]
theorem held_not (n f w : Int) (rd : Bool) : clock_Clock_Held.f n f false rd w = some (0, n, f, false, rd) := by
  unfold clock_Clock_Held.f
  rw [if_neg Bool.false_ne_true]

theorem fit_true : weighbridgelaw11_fit.f = some true := by decide +kernel

theorem rounds (f w : Int) (hf0 : 0 ≤ f) (hf : f < 1152921504606846976) (hw0 : 0 ≤ w) (hw : w < 1048576) (l : List Int) (hl : l.length ≤ 200) : ∀ d i : Nat, i + d = l.length → ∀ n : Int, f ≤ n → n ≤ f + 4096 * i → ∀ k, d < k →
    weighbridgelaw11_ClockHeld.l0 k f w n l (l.length : Int) (i : Int) n f true true = some true := by
  intro d
  induction d with
  | zero =>
    intro i hi n h1 h2 k hk
    obtain ⟨k, rfl⟩ : ∃ j, k = j + 1 := ⟨k - 1, by omega⟩
    rw [weighbridgelaw11_ClockHeld.l0, if_neg (by omega), read_eq, Option.bind_some]
    dsimp only
    rw [mx_max, mx_max, if_pos rfl, Base.w64_in _ (by omega) (by omega), held_eq _ f w true (by omega) (by omega) hf0 (by omega) hw0 (by omega), Option.bind_some]
    dsimp only
    rw [show max (f + w - max (max n (f + w)) 0) 0 = 0 from by omega]
    rfl
  | succ d ih =>
    intro i hi n h1 h2 k hk
    obtain ⟨k, rfl⟩ : ∃ j, k = j + 1 := ⟨k - 1, by omega⟩
    rw [weighbridgelaw11_ClockHeld.l0, if_pos (by omega), if_pos (by omega), if_pos (by omega), held_eq n f w true (by omega) (by omega) hf0 (by omega) hw0 (by omega), Option.bind_some]
    dsimp only
    obtain ⟨g, hg⟩ : ∃ g, g = Go.bits .and .i64 (rd l (i : Int)) 4095 := ⟨_, rfl⟩
    have hg2 : 0 ≤ g ∧ g < 4096 := by rw [hg, Base.and_i64 12 (by decide) _ _ (by decide)]; omega
    rw [← hg, Base.w64_in (n + g) (by omega) (by omega), read_eq, Option.bind_some]
    dsimp only
    rw [mx_max, mx_max, if_pos rfl, if_pos (by omega), show max (max n (n + g)) 0 = n + g from by omega, held_eq (n + g) f w true (by omega) (by omega) hf0 (by omega) hw0 (by omega), Option.bind_some]
    dsimp only
    rw [mx_max, Base.w64_in (max (f + w - n) 0 - g) (by omega) (by omega), if_pos (by omega), Base.w64_in _ (by omega) (by omega)]
    exact ih (i + 1) (by omega) (n + g) (by omega) (by omega) k (by omega)
theorem ClockHeld : weighbridgelaw11_ClockHeld.Pure := by
  intro f l w hf hl hl2 hwl hw
  refine ⟨201 + 1, ?_⟩
  unfold weighbridgelaw11_ClockHeld.f
  rw [fit_true, Option.bind_some, if_pos rfl]
  by_cases h : (l.length : Int) > 200
  · rw [if_pos h]
  · rw [if_neg h]
    have e1 : Go.bits .and .i64 f 1152921504606846975 = f % 2 ^ 60 := Base.and_i64 60 (by decide) _ _ (by decide)
    have e2 : Go.bits .and .i64 w 1048575 = w % 2 ^ 20 := Base.and_i64 20 (by decide) _ _ (by decide)
    rw [read_eq, Option.bind_some]
    dsimp only
    unfold clock_Clock_Restart.f
    rw [Option.bind_some]
    dsimp only
    rw [read_eq, Option.bind_some]
    dsimp only
    rw [mx_max, mx_max, if_neg Bool.false_ne_true, e1, e2, show max (max 0 (f % 2 ^ 60)) 0 = f % 2 ^ 60 from by omega]
    exact rounds (f % 2 ^ 60) (w % 2 ^ 20) (by omega) (by omega) (by omega) (by omega) l (by omega) l.length 0 (by omega) _ (by omega) (by omega) 202 (by omega)

end Go.Proofs.Ytbkngofbedgecaa.Pure
