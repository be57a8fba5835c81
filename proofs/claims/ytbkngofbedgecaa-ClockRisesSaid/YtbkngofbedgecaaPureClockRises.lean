/- Proved: no reading brings the time back; without a restart nothing is ever held. For every input; no condition. -/
import Derived.Test.YtbkngofbedgecaaQClockRisesx1
import Derived.Test.YtbkngofbedgecaaBase
namespace Go.Proofs.Ytbkngofbedgecaa.Pure
open Go Go.RowKit Go.Proofs.Ytbkngofbedgecaa Go.Proofs.Ytbkngofbedgecaa.QClockRises Go.Proofs.YtbkngofbedgecaaW.PrintWords Go.Proofs.YtbkngofbedgecaaW.PrintLast Go.Proofs.YtbkngofbedgecaaW.PrintMore
theorem read_eq (n f : Int) (a rd : Bool) (r : Int) : clock_Clock_Read.f n f a rd r = some (mx (mx n r) 0, mx (mx n r) 0, if rd = true then f else mx (mx n r) 0, a, true) := by
  unfold clock_Clock_Read.f
  cases rd with
  | true => rw [if_pos rfl, if_pos rfl]
  | false => rw [if_neg Bool.false_ne_true, if_neg Bool.false_ne_true]
theorem mx_max (a b : Int) : mx a b = max a b := by unfold mx; omega
theorem rd_wf (l : List Int) (hw : ∀ x ∈ l, (Lit.int .i64 x).wf = true) (i : Int) (h0 : 0 ≤ i) (h1 : i < (l.length : Int)) : -9223372036854775808 ≤ rd l i ∧ rd l i < 9223372036854775808 := by
  have hlt : i.toNat < l.length := by omega
  have hm : rd l i ∈ l := by
    unfold rd
    rw [List.getD_eq_getElem?_getD, List.getElem?_eq_getElem hlt, Option.getD_some]
    exact List.getElem_mem hlt
  exact Base.wf_i64 (hw _ hm)

theorem sum_in (a b : Int) (h0 : -4611686018427387904 ≤ a) (h1 : a ≤ 4611686018427387904) (h2 : 0 ≤ b) (h3 : b < 4611686018427387904) : arith_Sum.f a b = some (a + b) := by
  unfold arith_Sum.f arith_Add.f
  rw [Option.bind_some]
  dsimp only
  rw [Base.w64_in _ (by omega) (by omega), if_pos (by rw [beq_iff_eq, decide_eq_decide]; omega)]
theorem held_eq (n f w : Int) (rd : Bool) (hn0 : 0 ≤ n) (hn : n ≤ 4611686018427387904) (h0 : 0 ≤ f) (h1 : f ≤ 4611686018427387904) (h2 : 0 ≤ w) (h3 : w < 4611686018427387904) : clock_Clock_Held.f n f true rd w = some (max (f + w - n) 0, n, f, true, rd) := by
  unfold clock_Clock_Held.f
  rw [if_pos rfl, sum_in f w (by omega) h1 h2 h3, Option.bind_some, Base.w64_in _ (by omega) (by omega), mx_max]
theorem held_not (n f w : Int) (rd : Bool) : clock_Clock_Held.f n f false rd w = some (0, n, f, false, rd) := by
  unfold clock_Clock_Held.f
  rw [if_neg Bool.false_ne_true]

theorem fit_true : weighbridgelaw11_fit.f = some true := by decide +kernel

theorem rounds (l : List Int) (hl : l.length ≤ 300) (w : Int) : ∀ d i : Nat, i + d = l.length → ∀ (n f : Int) (rd : Bool), 0 ≤ n → ∀ k, d < k →
    weighbridgelaw11_ClockRises.l0 k w n l (l.length : Int) (i : Int) n f false rd = some true := by
  intro d
  induction d with
  | zero =>
    intro i hi n f rd hn k hk
    obtain ⟨k, rfl⟩ : ∃ j, k = j + 1 := ⟨k - 1, by omega⟩
    rw [weighbridgelaw11_ClockRises.l0, if_neg (by omega)]
    unfold clock_Clock_Now.f
    rw [Option.bind_some]
    dsimp only
    rw [beq_self_eq_true]
  | succ d ih =>
    intro i hi n f rdb hn k hk
    obtain ⟨k, rfl⟩ : ∃ j, k = j + 1 := ⟨k - 1, by omega⟩
    rw [weighbridgelaw11_ClockRises.l0, if_pos (by omega), if_pos (by omega), if_pos (by omega), read_eq, Option.bind_some]
    dsimp only
    rw [mx_max, mx_max, held_not, Option.bind_some]
    dsimp only
    rw [Base.w64_in _ (by omega) (by omega)]
    obtain ⟨r, hr⟩ : ∃ r, r = rd l (i : Int) := ⟨_, rfl⟩
    rw [← hr, if_neg (by omega), if_neg (by omega), if_pos rfl]
    exact ih (i + 1) (by omega) (max (max n r) 0) _ true (by omega) k (by omega)
theorem ClockRises : weighbridgelaw11_ClockRises.Pure := by
  intro l w hl hl2 hw hwf
  refine ⟨301 + 1, ?_⟩
  unfold weighbridgelaw11_ClockRises.f
  rw [fit_true, Option.bind_some, if_pos rfl]
  by_cases h : (l.length : Int) > 300
  · rw [if_pos h]
  · rw [if_neg h]
    exact rounds l (by omega) _ l.length 0 (by omega) 0 0 false (by decide) 302 (by omega)

end Go.Proofs.Ytbkngofbedgecaa.Pure
