/- Proved: the time is the greatest reading since the last restart, and is held till a window has passed since its first one. For every input; no condition. -/
import Derived.Test.YtbkngofbedgecaaQClockRunsx2
import Derived.Test.YtbkngofbedgecaaBase
namespace Go.Proofs.Ytbkngofbedgecaa.Pure
open Go Go.RowKit Go.Proofs.Ytbkngofbedgecaa Go.Proofs.Ytbkngofbedgecaa.QClockRuns Go.Proofs.YtbkngofbedgecaaW.PrintWords Go.Proofs.YtbkngofbedgecaaW.PrintLast Go.Proofs.YtbkngofbedgecaaW.PrintMore
theorem read_eq (n f : Int) (a rd : Bool) (r : Int) : clock_Clock_Read.f n f a rd r = some (mx (mx n r) 0, mx (mx n r) 0, if rd = true then f else mx (mx n r) 0, a, true) := by
  unfold clock_Clock_Read.f
  cases rd with
  | true => rw [if_pos rfl, if_pos rfl]
  | false => rw [if_neg Bool.false_ne_true, if_neg Bool.false_ne_true]
theorem mx_max (a b : Int) : mx a b = max a b := by unfold mx; omega
theorem rd_wf (l : List Int) (hw : ∀ x ∈ l, (Lit.int .i64 x).wf = true) (i : Int) (h0 : 0 ≤ i) (h1 : i < (l.length : Int)) : -9223372036854775808 ≤ rd l i ∧ rd l i < 9223372036854775808 := by
  have hlt : i.toNat < l.length := by omega
  have hm : rd l i ∈ l := by
    unfold rd
    rw [List.getD_eq_getElem?_getD, List.getElem?_eq_getElem hlt, Option.getD_some]
    exact List.getElem_mem hlt
  exact Base.wf_i64 (hw _ hm)

theorem sum_in (a b : Int) (h0 : -4611686018427387904 ≤ a) (h1 : a ≤ 4611686018427387904) (h2 : 0 ≤ b) (h3 : b < 4611686018427387904) : arith_Sum.f a b = some (a + b) := by
  unfold arith_Sum.f arith_Add.f
  rw [Option.bind_some]
  dsimp only
  rw [Base.w64_in _ (by omega) (by omega), if_pos (by rw [beq_iff_eq, decide_eq_decide]; omega)]
theorem held_eq (n f w : Int) (rd : Bool) (hn0 : 0 ≤ n) (hn : n ≤ 9223372036854775807) (h0 : 0 ≤ f) (h1 : f ≤ 4611686018427387904) (h2 : 0 ≤ w) (h3 : w < 4611686018427387904) : clock_Clock_Held.f n f true rd w = some (max (f + w - n) 0, n, f, true, rd) := by
  unfold clock_Clock_Held.f
  rw [if_pos rfl, sum_in f w (by omega) h1 h2 h3, Option.bind_some, Base.w64_in _ (by omega) (by omega), mx_max]
theorem held_not (n f w : Int) (rd : Bool) : clock_Clock_Held.f n f false rd w = some (0, n, f, false, rd) := by
  unfold clock_Clock_Held.f
  rw [if_neg Bool.false_ne_true]

theorem fit_true : weighbridgelaw11_fit.f = some true := by decide +kernel

/-- The clock and the document's account agree. -/
def Inv (now first : Int) (held none : Bool) (n f : Int) (again rd : Bool) : Prop :=
  n = now ∧ again = held ∧ rd = !none ∧ 0 ≤ now ∧ now ≤ 9223372036854775807 ∧ 0 ≤ first ∧ first ≤ now ∧ (none = false → f = first) ∧ (none = true → now = 0)
theorem tail (l : List Int) (b : List Bool) (w : Int) (hw0 : 0 ≤ w) (hw : w < 2199023255552) (i r : Int) (hr : -9223372036854775808 ≤ r ∧ r < 9223372036854775808) (hi : 0 ≤ i) (hi2 : i < 1000) (k : Nat)
    (hk : ∀ now first held none n f again rd, Inv now first held none n f again rd → weighbridgelaw11_ClockRuns.l0 k b w now first held none l (l.length : Int) (i + 1) n f again rd = some true)
    (now first : Int) (held none : Bool) (n f : Int) (again rd : Bool) (hI : Inv now first held none n f again rd) :
    weighbridgelaw11_ClockRuns.j2 (k + 4) b w now first held none r l (l.length : Int) i n f again rd = some true := by
  obtain ⟨rfl, rfl, rfl, h1, h2, h3, h4, h5, h6⟩ := hI
  have hmx : mx n r = max (max n r) 0 := by rw [mx_max]; omega
  -- the first reading behind a restart is told
  have key : ∀ first' : Int, first' = (if none = true then mx n r else first) → weighbridgelaw11_ClockRuns.j3 (k + 3) b w (mx n r) first' again false r l (l.length : Int) i n f again (!none) = some true := by
    intro first' hf'
    obtain ⟨m, hm⟩ : ∃ m, m = mx n r := ⟨_, rfl⟩
    have hm0 : 0 ≤ m ∧ m ≤ 9223372036854775807 := by rw [hm, hmx]; omega
    rw [← hm] at hf' ⊢
    have hf0 : 0 ≤ first' ∧ first' ≤ m := by
      rw [hf']; split
      · omega
      · rw [hm, hmx]; omega
    have hrd : clock_Clock_Read.f n f again (!none) r = some (m, m, first', again, true) := by
      rw [read_eq, mx_max, mx_max, ← hmx, ← hm]
      cases none with
      | true => rw [hf', if_pos rfl, if_neg (by decide)]
      | false => rw [hf', if_neg Bool.false_ne_true, if_pos (by decide), h5 rfl]
    have hInv : Inv m first' again false m first' again true := ⟨rfl, rfl, rfl, hm0.1, hm0.2, hf0.1, hf0.2, fun _ => rfl, (fun h => by cases h)⟩
    have hend := hk m first' again false m first' again true hInv
    -- what is held, as the clock tells it
    have j5 : ∀ want : Int, (first' < 4611686018427387904 → ∃ z, clock_Clock_Held.f m first' again true w = some (want, m, first', again, true) ∧ z = want) →
        weighbridgelaw11_ClockRuns.j5 (k + 1) b w m first' again false r want l (l.length : Int) i n f again (!none) = some true := by
      intro want hwant
      rw [weighbridgelaw11_ClockRuns.j5, hrd, Option.bind_some]
      dsimp only
      unfold clock_Clock_Now.f clock_Clock_Over.f
      rw [if_pos rfl, Option.bind_some]
      dsimp only
      rw [if_pos rfl, Option.bind_some]
      dsimp only
      rw [if_pos (beq_self_eq_true _), Base.w64_in (i + 1) (by omega) (by omega)]
      by_cases c : first' < 4611686018427387904
      · obtain ⟨_, hh, _⟩ := hwant c
        rw [if_pos c, hh, Option.bind_some]
        dsimp only
        rw [if_pos rfl]
        exact hend
      · rw [if_neg c]
        exact hend
    rw [weighbridgelaw11_ClockRuns.j3]
    cases again with
    | false =>
      rw [if_neg Bool.false_ne_true, weighbridgelaw11_ClockRuns.j4, if_neg Bool.false_ne_true]
      exact j5 0 (fun _ => ⟨0, held_not m first' w true, rfl⟩)
    | true =>
      rw [if_pos rfl, weighbridgelaw11_ClockRuns.j4, Base.w64_in (m - first') (by omega) (by omega), Base.w64_in (first' - m) (by omega) (by omega), Base.w64_in (first' - m + w) (by omega) (by omega)]
      by_cases c : m - first' < w
      · rw [decide_eq_true c, if_pos rfl]
        refine j5 _ (fun h => ⟨_, ?_, rfl⟩)
        rw [held_eq m first' w true hm0.1 hm0.2 hf0.1 (by omega) hw0 (by omega), show max (first' + w - m) 0 = first' - m + w from by omega]
      · rw [decide_eq_false c, if_neg Bool.false_ne_true]
        refine j5 _ (fun h => ⟨_, ?_, rfl⟩)
        rw [held_eq m first' w true hm0.1 hm0.2 hf0.1 (by omega) hw0 (by omega), show max (first' + w - m) 0 = 0 from by omega]
  rw [weighbridgelaw11_ClockRuns.j2]
  cases none with
  | true => rw [if_pos rfl]; exact key _ (by rw [if_pos rfl])
  | false => rw [if_neg Bool.false_ne_true]; exact key _ (by rw [if_neg Bool.false_ne_true])
theorem rounds (l : List Int) (hw : ∀ x ∈ l, (Lit.int .i64 x).wf = true) (hl : l.length ≤ 300) (b : List Bool) (w : Int) (hw0 : 0 ≤ w) (hw1 : w < 2199023255552) : ∀ d i : Nat, i + d = l.length → ∀ now first held none n f again rd, Inv now first held none n f again rd → ∀ k, 6 * d < k →
    weighbridgelaw11_ClockRuns.l0 k b w now first held none l (l.length : Int) (i : Int) n f again rd = some true := by
  intro d
  induction d with
  | zero =>
    intro i hi now first held none n f again rdb _ k hk
    obtain ⟨k, rfl⟩ : ∃ j, k = j + 1 := ⟨k - 1, by omega⟩
    rw [weighbridgelaw11_ClockRuns.l0, if_neg (by omega)]
  | succ d ih =>
    intro i hi now first held none n f again rdb hI k hk
    obtain ⟨k, rfl⟩ : ∃ j, k = j + 4 + 1 + 1 := ⟨k - 6, by omega⟩
    have hr := rd_wf l hw (i : Int) (by omega) (by omega)
    have ht := tail l b w hw0 hw1 (i : Int) (rd l (i : Int)) hr (by omega) (by omega) k (fun now first held none n f again rd hI' => ih (i + 1) (by omega) now first held none n f again rd hI' k (by omega))
    have hj1 : ∀ again' : Bool, weighbridgelaw11_ClockRuns.j1 (k + 4 + 1) b w now first held none (rd l (i : Int)) l (l.length : Int) (i : Int) again' n f again rdb = some true := by
      intro again'
      rw [weighbridgelaw11_ClockRuns.j1]
      cases again' with
      | false => rw [if_neg Bool.false_ne_true]; exact ht _ _ _ _ _ _ _ _ hI
      | true =>
        unfold clock_Clock_Restart.f clock_Clock_Now.f
        rw [if_pos rfl, Option.bind_some]
        dsimp only
        rw [Option.bind_some]
        dsimp only
        rw [if_pos rfl, held_eq 0 0 w false (by decide) (by decide) (by decide) (by decide) hw0 (by omega), Option.bind_some]
        dsimp only
        rw [if_pos (by omega)]
        exact ht 0 0 true true 0 0 true false ⟨rfl, rfl, rfl, by decide, by decide, by decide, by decide, (fun h => by cases h), fun _ => rfl⟩
    rw [weighbridgelaw11_ClockRuns.l0, if_pos (by omega), if_pos (by omega), if_pos (by omega)]
    split
    · exact hj1 _
    · exact hj1 _
theorem ClockRuns : weighbridgelaw11_ClockRuns.Pure := by
  intro l b w hl hw hb _ hwf
  refine ⟨1801 + 1, ?_⟩
  unfold weighbridgelaw11_ClockRuns.f
  rw [fit_true, Option.bind_some, if_pos rfl]
  by_cases h : (l.length : Int) > 300
  · rw [if_pos h]
  · rw [if_neg h]
    have e : Go.bits .and .i64 w 2199023255551 = w % 2 ^ 41 := Base.and_i64 41 (by decide) _ _ (by decide)
    rw [e]
    exact rounds l hw (by omega) b (w % 2 ^ 41) (by omega) (by omega) l.length 0 (by omega) 0 0 false true 0 0 false false ⟨rfl, rfl, rfl, by decide, by decide, by decide, by decide, (fun h => by cases h), fun _ => rfl⟩ 1802 (by omega)

end Go.Proofs.Ytbkngofbedgecaa.Pure
