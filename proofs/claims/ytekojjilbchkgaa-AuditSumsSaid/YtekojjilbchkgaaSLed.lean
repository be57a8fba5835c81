/- Ledgers' keys, and sums in whatever order. No condition. -/
import Derived.Test.YtekojjilbchkgaaSAll
import Derived.Test.YtekojjilbchkgaaLAuditApart
import Derived.Test.YtekojjilbchkgaaArg
namespace Go.Proofs.Ytekojjilbchkgaa.Can
open Go
set_option linter.unusedSimpArgs false
set_option linter.unusedVariables false

theorem sameW_eq {a b : Wh} : sameW a b = true ↔ a = b := by
  rw [sameW_iff]
  constructor
  · rintro ⟨h1, h2⟩
    rw [ByteArray.toList_eq, ByteArray.toList_eq] at h2
    exact Prod.ext h1 (Go.WideShapes.bytes_inj h2)
  · rintro rfl
    exact ⟨rfl, rfl⟩
def who (x : En) : Wh := (x.1, x.2.1)
theorem note_keys (w : Wh) (e : Ev) : ∀ ws : Led, (w ∈ ws.map (·.1) → (note w e ws).map (·.1) = ws.map (·.1)) ∧ (w ∉ ws.map (·.1) → (note w e ws).map (·.1) = ws.map (·.1) ++ [w])
  | [] => ⟨fun h => by simp at h, fun _ => rfl⟩
  | x :: r => by
    obtain ⟨i1, i2⟩ := note_keys w e r
    simp only [note]
    by_cases h : sameW w x.1 = true
    · rw [if_pos h]
      have := sameW_eq.1 h
      refine ⟨fun _ => by simp [this], fun hn => absurd (by rw [this]; exact List.mem_cons_self) hn⟩
    · rw [if_neg h]
      have hne : w ≠ x.1 := fun q => h (sameW_eq.2 q)
      refine ⟨fun hm => ?_, fun hn => ?_⟩
      · rw [List.map_cons, List.mem_cons] at hm
        rw [List.map_cons, List.map_cons, i1 (hm.resolve_left hne)]
      · rw [List.map_cons, List.mem_cons] at hn
        rw [List.map_cons, List.map_cons, i2 (fun q => hn (.inr q)), List.cons_append]
/-- The keys of what was noted. -/
structure KOk (ws : Led) (l : List En) : Prop where
  nd : (ws.map (·.1)).Nodup
  mem : ∀ w, w ∈ ws.map (·.1) ↔ ∃ x ∈ l, who x = w
  len : ws.length ≤ l.length
theorem KOk.nil : KOk [] [] := ⟨List.nodup_nil, fun w => by simp, Nat.le_refl _⟩
theorem KOk.step {ws : Led} {l : List En} (k : KOk ws l) (x : En) (e : Ev) : KOk (note (who x) e ws) (l ++ [x]) := by
  obtain ⟨n1, n2⟩ := note_keys (who x) e ws
  have hl : (note (who x) e ws).length = ((note (who x) e ws).map (·.1)).length := by rw [List.length_map]
  by_cases c : who x ∈ ws.map (·.1)
  · refine ⟨by rw [n1 c]; exact k.nd, fun w => ?_, by rw [hl, n1 c, List.length_map, List.length_append]; have := k.len; omega⟩
    rw [n1 c, k.mem]
    constructor
    · rintro ⟨y, hy, h⟩; exact ⟨y, List.mem_append_left _ hy, h⟩
    · rintro ⟨y, hy, h⟩
      rcases List.mem_append.1 hy with hy | hy
      · exact ⟨y, hy, h⟩
      · rw [List.mem_singleton.1 hy] at h
        rw [← h]
        exact (k.mem _).1 c
  · refine ⟨?_, fun w => ?_, by rw [hl, n2 c, List.length_append, List.length_map, List.length_append]; have := k.len; simp; omega⟩
    · rw [n2 c, List.nodup_append]
      exact ⟨k.nd, by simp, fun a ha b hb => by simp at hb; subst hb; rintro rfl; exact c ha⟩
    · rw [n2 c, List.mem_append, k.mem, List.mem_singleton]
      constructor
      · rintro (⟨y, hy, h⟩ | h)
        · exact ⟨y, List.mem_append_left _ hy, h⟩
        · exact ⟨x, by simp, h.symm⟩
      · rintro ⟨y, hy, h⟩
        rcases List.mem_append.1 hy with hy | hy
        · exact .inl ⟨y, hy, h⟩
        · rw [List.mem_singleton.1 hy] at h; exact .inr h.symm
def toT (w : Wh) : WhT := (⟨w.1.toNat % 4, Nat.mod_lt _ (by decide)⟩, w.2)
theorem toW_toT {w : Wh} (h : 0 ≤ w.1 ∧ w.1 < 4) : toW (toT w) = w := by
  obtain ⟨a, b⟩ := w
  simp only at h
  show (((a.toNat % 4 : Nat) : Int), b) = (a, b)
  rw [show ((a.toNat % 4 : Nat) : Int) = a by omega]
theorem toW_inj {a b : WhT} (h : toW a = toW b) : a = b := by
  unfold toW at h
  simp only [Prod.mk.injEq] at h
  exact Prod.ext (Fin.ext (by omega)) h.2
theorem KOk.ts {ws : Led} {l : List En} (k : KOk ws l) (hl : ∀ x ∈ l, 0 ≤ x.1 ∧ x.1 < 4) : ∃ ts : List WhT, ws.map (·.1) = ts.map toW ∧ ts.Nodup ∧ ∀ t, t ∈ ts ↔ ∃ x ∈ l, who x = toW t := by
  have e : ws.map (·.1) = ((ws.map (·.1)).map toT).map toW := by
    rw [List.map_map]
    conv => lhs; rw [← List.map_id (ws.map (·.1))]
    refine List.map_congr_left fun w hw => ?_
    obtain ⟨x, hx, rfl⟩ := (k.mem w).1 hw
    exact (toW_toT (hl x hx)).symm
  refine ⟨(ws.map (·.1)).map toT, e, ?_, fun t => ?_⟩
  · have n := k.nd
    rw [e] at n
    exact (List.pairwise_map.1 n).imp fun h q => h (congrArg toW q)
  · rw [← k.mem]
    constructor
    · intro h; rw [e]; exact List.mem_map.2 ⟨t, h, rfl⟩
    · intro h
      rw [e] at h
      obtain ⟨u, hu, hq⟩ := List.mem_map.1 h
      rw [← toW_inj hq]; exact hu
theorem rises_pw {ts : List WhT} (h : RisesT ts) : ts.Pairwise fun x y => ltW y x = false :=
  List.pairwise_iff_getElem.2 fun i j hi hj hij => h i j _ _ hij (List.getElem?_eq_getElem hi) (List.getElem?_eq_getElem hj)
theorem rises_one {a b : List WhT} (p : a.Perm b) (ha : RisesT a) (hb : RisesT b) : a = b :=
  List.Perm.eq_of_pairwise (fun x y _ _ h k => ltW_conn k h) (rises_pw ha) (rises_pw hb) p
/-! ### sums in whatever order -/
theorem ps_rev (a b : Int) : ∀ l : List Ev, ps a b l.reverse = ps a b l
  | [] => rfl
  | e :: l => by
    rw [List.reverse_cons, ps_app, ps_rev a b l]
    simp only [ps]
    omega
theorem fe_rev (w : Wh) (l : List En) : fe w l.reverse = (fe w l).reverse := by
  unfold fe; rw [List.filter_reverse, List.map_reverse]
theorem TameE.rev {l : List Ev} (h : TameE l) : TameE l.reverse := fun e he => h e (List.mem_reverse.1 he)
theorem bm_rev (l : List Ev) (n : Int) : ∀ k, bm l.reverse n k = bm l n k
  | 0 => rfl
  | k + 1 => by simp only [bm, bm_rev l n k, ps_rev]
theorem mostV_rev {l : List Ev} (h : TameE l) (hl : l.length ≤ 1000) {n : Int} (hn : n ≤ 1000000) : mostV l.reverse n = mostV l n := by
  unfold mostV
  by_cases c : n < 1
  · rw [if_pos c, if_pos c]
  · rw [if_neg c, if_neg c, most_eq h.rev (by rw [List.length_reverse]; exact hl) (by omega), most_eq h hl (by omega), bm_rev]
theorem sumL_rev {l : List Ev} (h : TameE l) (hl : l.length ≤ 1000) (a b : Int) : sumL a b 0 l.reverse = sumL a b 0 l := by
  rw [sumL_ps a b _ 0 h.rev (Int.le_refl _) (by rw [List.length_reverse]; omega), sumL_ps a b _ 0 h (Int.le_refl _) (by omega), ps_rev]
theorem tm_rule (l : List En) : ∀ x ∈ l.map tm, 0 ≤ x.1 ∧ x.1 < 4 := fun x hx => by
  obtain ⟨y, _, rfl⟩ := List.mem_map.1 hx
  show 0 ≤ y.1 % 2 ^ 2 ∧ y.1 % 2 ^ 2 < 4
  omega
/-! ### the ledger's keys as a call known by what it ends in -/
def allD : DSem := fun f args h R => f = 13 ∧ CALLD cp sortD d13 args h R
theorem allD_ok : DSOK Try.prog allD := by
  rintro f args h R ⟨rfl, hc⟩
  exact ⟨⟨Try.f13, Try.func13, by kernel_rfl, by kernel_rfl⟩, fun S m w args' ha e hf hg => callD_sound progs sortD_ok Try.func13 fnd13 hc ha e hf hg⟩
open Go.ChangeShapes Go.WideShapes Go.Deep Go.RowKit in
theorem law_soundE {P : Program} {CP : CProg} {DS : DSem} (hP : Progs P CP) (hDS : DSOK P DS) {D : FuncId → Bool} {f : FuncId} {F : Func} (hF : P.funcs[f]? = some F) {p : Pers} {fn : DFn} (hfn : toFnD P D p F = some fn) {args : List Value} {h : Heap} (hc : CALLD CP DS fn args h fun v _ => v = .bool true) {m : Map} {W : World} {args' : Array Value} (ha : VL m args args'.toList) (hE : Emb P ⟨fun k => k < W.heap.size, fun _ => False⟩ m h W) (hf : ∀ b, h.next ≤ b → m b = none) (hgl : GlobOK m := by intro g hg; exact absurd hg (by simp [GLN])) :
    Calls P f args' W fun e W' => e = .returned (.bool true) ∧ Below W.heap.size W W' := by
  refine (callD_sound hP hDS hF hfn hc ha hE hf hgl).mono fun e W' hp => ?_
  obtain ⟨v, v', h1, m1, rfl, rfl, hv, ho⟩ := hp
  refine ⟨by rw [hv.bool_inv], ho.wd.os, ho.wd.tape, ho.wd.output, ho.wd.size, fun k hk => ho.wd.block k (.inl hk)⟩
end Go.Proofs.Ytekojjilbchkgaa.Can
