/- Numbers and configurations as bytes, in plain Lean. No condition. -/
import Derived.Test.YtgmhgpcfkkfolaaSCfg
namespace Go.Proofs.Ytgmhgpcfkkfolaa.Can
open Go
set_option linter.unusedSimpArgs false
set_option linter.unusedVariables false

def Byts (l : List Int) : Prop := ∀ x ∈ l, 0 ≤ x ∧ x < 256
def encN : Nat → Int → List Int
  | 0, _ => []
  | n + 1, x => encN n (x / 256) ++ [x % 256]
def decN (l : List Int) : Int := l.foldl (fun a c => a * 256 + c) 0
theorem decN_snoc (l : List Int) (c : Int) : decN (l ++ [c]) = decN l * 256 + c := by unfold decN; rw [List.foldl_append]; rfl
theorem encN_len : ∀ n x, (encN n x).length = n
  | 0, _ => rfl
  | n + 1, x => by simp only [encN, List.length_append, List.length_singleton, encN_len n]
theorem encN_byts : ∀ n x, Byts (encN n x)
  | 0, _ => fun y hy => by simp [encN] at hy
  | n + 1, x => fun y hy => by
    simp only [encN, List.mem_append, List.mem_singleton] at hy
    rcases hy with hy | rfl
    · exact encN_byts n _ y hy
    · omega
theorem decN_range : ∀ (n : Nat) (l : List Int), l.length = n → Byts l → 0 ≤ decN l ∧ decN l < 256 ^ n := by
  intro n
  induction n with
  | zero => intro l hl _; rw [List.length_eq_zero_iff.1 hl]; decide
  | succ n ih =>
    intro l hl hb
    obtain ⟨m, c, rfl⟩ : ∃ m c, l = m ++ [c] := ⟨l.dropLast, l.getLast (by intro h; rw [h] at hl; simp at hl), (List.dropLast_concat_getLast _).symm⟩
    have h1 := ih m (by simpa using hl) fun y hy => hb y (List.mem_append_left _ hy)
    have h2 := hb c (by simp)
    rw [decN_snoc, Int.pow_succ]
    omega
theorem dec_enc : ∀ (n : Nat) (x : Int), 0 ≤ x → x < 256 ^ n → decN (encN n x) = x
  | 0, x, h0, h1 => by simp at h1; have : x = 0 := by omega
                       subst this; rfl
  | n + 1, x, h0, h1 => by
    rw [Int.pow_succ] at h1
    simp only [encN]
    rw [decN_snoc, dec_enc n (x / 256) (by omega) (by omega)]
    omega
theorem enc_dec : ∀ (n : Nat) (l : List Int), l.length = n → Byts l → encN n (decN l) = l := by
  intro n
  induction n with
  | zero => intro l hl _; rw [List.length_eq_zero_iff.1 hl]; rfl
  | succ n ih =>
    intro l hl hb
    obtain ⟨m, c, rfl⟩ : ∃ m c, l = m ++ [c] := ⟨l.dropLast, l.getLast (by intro h; rw [h] at hl; simp at hl), (List.dropLast_concat_getLast _).symm⟩
    have h1 := ih m (by simpa using hl) fun y hy => hb y (List.mem_append_left _ hy)
    have h2 := hb c (by simp)
    rw [decN_snoc]
    simp only [encN]
    rw [show (decN m * 256 + c) / 256 = decN m by omega, show (decN m * 256 + c) % 256 = c by omega, h1]
theorem encN_get : ∀ (n : Nat) (x : Int) (i : Nat), i < n → (encN n x)[i]? = some (x / 256 ^ (n - 1 - i) % 256)
  | 0, _, _, h => by omega
  | n + 1, x, i, h => by
    simp only [encN]
    by_cases e : i < n
    · rw [List.getElem?_append_left (by rw [encN_len]; exact e), encN_get n (x / 256) i e]
      rw [show n + 1 - 1 - i = (n - 1 - i) + 1 by omega, Int.pow_succ, Int.mul_comm, ← Int.ediv_ediv_of_nonneg (by decide)]
    · have : i = n := by omega
      subst this
      rw [List.getElem?_append_right (by rw [encN_len]; exact Nat.le_refl _), encN_len, Nat.sub_self]
      simp
/-- A number's eight bytes; the number of eight bytes. -/
def encI (x : Int) : List Int := encN 8 (x % 18446744073709551616)
def decI (l : List Int) : Int := IntKind.i64.wrap (decN l)
theorem encI_len (x : Int) : (encI x).length = 8 := encN_len 8 _
theorem encI_byts (x : Int) : Byts (encI x) := encN_byts 8 _
theorem decI_encI {x : Int} (h : I64 x) : decI (encI x) = x := by
  unfold decI encI
  unfold I64 at h
  have : (256 : Int) ^ 8 = 18446744073709551616 := by decide
  rw [dec_enc 8 _ (by omega) (by rw [this]; omega), wi64]; omega
theorem encI_decI {l : List Int} (hl : l.length = 8) (hb : Byts l) : encI (decI l) = l ∧ I64 (decI l) := by
  have h := decN_range 8 l hl hb
  have p : (256 : Int) ^ 8 = 18446744073709551616 := by decide
  rw [p] at h
  unfold decI encI
  rw [wi64]
  refine ⟨?_, by unfold I64; omega⟩
  rw [show ((decN l + 9223372036854775808) % 18446744073709551616 - 9223372036854775808) % 18446744073709551616 = decN l by omega]
  exact enc_dec 8 l hl hb
/-- The numbers of bytes. -/
def numsOf : Nat → List Int → List Int
  | 0, _ => []
  | m + 1, bs => decI (bs.take 8) :: numsOf m (bs.drop 8)
theorem numsOf_len : ∀ m bs, (numsOf m bs).length = m
  | 0, _ => rfl
  | m + 1, bs => by simp [numsOf, numsOf_len m]
theorem nums_enc : ∀ (ns : List Int), (∀ x ∈ ns, I64 x) → numsOf ns.length (ns.flatMap encI) = ns
  | [], _ => rfl
  | x :: t, h => by
    simp only [List.length_cons, numsOf, List.flatMap_cons]
    rw [List.take_append_of_le_length (by rw [encI_len]; exact Nat.le_refl _), List.take_of_length_le (by rw [encI_len]; exact Nat.le_refl _), decI_encI (h x List.mem_cons_self),
      show (encI x ++ t.flatMap encI).drop 8 = t.flatMap encI by rw [List.drop_append_of_le_length (by rw [encI_len]; exact Nat.le_refl _), List.drop_of_length_le (by rw [encI_len]; exact Nat.le_refl _), List.nil_append], nums_enc t fun y hy => h y (List.mem_cons_of_mem _ hy)]
theorem enc_nums : ∀ (m : Nat) (bs : List Int), bs.length = 8 * m → Byts bs → (numsOf m bs).flatMap encI = bs ∧ ∀ x ∈ numsOf m bs, I64 x
  | 0, bs, hl, _ => by rw [List.length_eq_zero_iff.1 (by omega : bs.length = 0)]; exact ⟨rfl, fun x hx => by simp [numsOf] at hx⟩
  | m + 1, bs, hl, hb => by
    obtain ⟨h1, h2⟩ := encI_decI (l := bs.take 8) (by rw [List.length_take]; omega) fun y hy => hb y (List.mem_of_mem_take hy)
    obtain ⟨h3, h4⟩ := enc_nums m (bs.drop 8) (by rw [List.length_drop]; omega) fun y hy => hb y (List.mem_of_mem_drop hy)
    simp only [numsOf, List.flatMap_cons]
    rw [h1, h3, List.take_append_drop]
    refine ⟨rfl, fun x hx => ?_⟩
    rcases List.mem_cons.1 hx with rfl | hx
    · exact h2
    · exact h4 x hx
theorem nums_get : ∀ (m : Nat) (bs : List Int) (i : Nat), i < m → (numsOf m bs)[i]? = some (decI ((bs.drop (8 * i)).take 8))
  | 0, _, _, h => by omega
  | m + 1, bs, 0, _ => by simp [numsOf]
  | m + 1, bs, i + 1, h => by
    simp only [numsOf, List.getElem?_cons_succ]
    rw [nums_get m (bs.drop 8) i (by omega), List.drop_drop, show 8 + 8 * i = 8 * (i + 1) by omega]
/-- A rule's numbers, a configuration's. -/
def rnums (r : RuleT) : List Int := [r.1, r.2.1, r.2.2.1, r.2.2.2.1, r.2.2.2.2.1, r.2.2.2.2.2.1, r.2.2.2.2.2.2.1, r.2.2.2.2.2.2.2.1, if r.2.2.2.2.2.2.2.2 then 1 else 0]
def cnums (bu co ou : Int) (l : List RuleT) : List Int := [bu, co, ou, (l.length : Int)] ++ l.flatMap rnums
def encC (bu co ou : Int) (l : List RuleT) : List Int := (cnums bu co ou l).flatMap encI
theorem rnums_len (r : RuleT) : (rnums r).length = 9 := rfl
theorem flat9_len : ∀ l : List RuleT, (l.flatMap rnums).length = 9 * l.length
  | [] => rfl
  | r :: t => by rw [List.flatMap_cons, List.length_append, flat9_len t, rnums_len, List.length_cons]; omega
theorem cnums_len (bu co ou : Int) (l : List RuleT) : (cnums bu co ou l).length = 4 + 9 * l.length := by unfold cnums; rw [List.length_append, flat9_len]; rfl
theorem flat8_len : ∀ l : List Int, (l.flatMap encI).length = 8 * l.length
  | [] => rfl
  | r :: t => by rw [List.flatMap_cons, List.length_append, flat8_len t, encI_len, List.length_cons]; omega
theorem flat8_byts (l : List Int) : Byts (l.flatMap encI) := fun y hy => by
  obtain ⟨x, _, hx⟩ := List.mem_flatMap.1 hy
  exact encI_byts x y hx
theorem encC_len (bu co ou : Int) (l : List RuleT) : (encC bu co ou l).length = 32 + 72 * l.length := by unfold encC; rw [flat8_len, cnums_len]; omega
theorem flat9_get : ∀ (l : List RuleT) (j q : Nat) (r : RuleT), l[j]? = some r → q < 9 → (l.flatMap rnums)[9 * j + q]? = (rnums r)[q]?
  | [], j, q, r, h, _ => by simp at h
  | x :: t, 0, q, r, h, hq => by
    simp only [List.getElem?_cons_zero, Option.some.injEq] at h
    subst h
    rw [List.flatMap_cons, List.getElem?_append_left (by rw [rnums_len]; omega), Nat.mul_zero, Nat.zero_add]
  | x :: t, j + 1, q, r, h, hq => by
    rw [List.flatMap_cons, List.getElem?_append_right (by rw [rnums_len]; omega), rnums_len, show 9 * (j + 1) + q - 9 = 9 * j + q by omega]
    exact flat9_get t j q r (by simpa using h) hq
theorem rnums_inj {r s : RuleT} (h : rnums r = rnums s) : r = s := by
  obtain ⟨a1, a2, a3, a4, a5, a6, a7, a8, a9⟩ := r
  obtain ⟨b1, b2, b3, b4, b5, b6, b7, b8, b9⟩ := s
  simp only [rnums, List.cons.injEq, and_true] at h
  obtain ⟨rfl, rfl, rfl, rfl, rfl, rfl, rfl, rfl, h9⟩ := h
  have : a9 = b9 := by cases a9 <;> cases b9 <;> simp at h9 <;> rfl
  rw [this]
theorem flat9_inj : ∀ {l m : List RuleT}, l.flatMap rnums = m.flatMap rnums → l = m
  | [], [], _ => rfl
  | [], y :: t, h => by have := congrArg List.length h; rw [flat9_len, flat9_len] at this; simp at this
  | x :: t, [], h => by have := congrArg List.length h; rw [flat9_len, flat9_len] at this; simp at this
  | x :: t, y :: u, h => by
    rw [List.flatMap_cons, List.flatMap_cons] at h
    obtain ⟨h1, h2⟩ := List.append_inj h (by rw [rnums_len, rnums_len])
    rw [rnums_inj h1, flat9_inj h2]
def RuleI (r : RuleT) : Prop := I64 r.1 ∧ I64 r.2.1 ∧ I64 r.2.2.1 ∧ I64 r.2.2.2.1 ∧ I64 r.2.2.2.2.1 ∧ I64 r.2.2.2.2.2.1 ∧ I64 r.2.2.2.2.2.2.1 ∧ I64 r.2.2.2.2.2.2.2.1
theorem CfgOK.nums {bu co ou : Int} {l : List RuleT} (h : CfgOK bu co ou l) : (∀ x ∈ cnums bu co ou l, I64 x) ∧ ∀ r ∈ l, RuleI r := by
  obtain ⟨h1, h2, h3, h4, h5, _⟩ := h
  have hr : ∀ r ∈ l, RuleI r := fun r hr => by
    obtain ⟨L, W, B, S, C, R, D, T, m⟩ := r
    obtain ⟨q1, q2, q3, q4, _, q6, q7, q8, q9, _, _⟩ := (h5 _ hr).1
    simp only [RuleI, I64] at *
    omega
  refine ⟨fun x hx => ?_, hr⟩
  unfold cnums at hx
  rw [List.mem_append] at hx
  rcases hx with hx | hx
  · simp only [List.mem_cons, List.not_mem_nil, or_false] at hx
    unfold I64
    rcases hx with rfl | rfl | rfl | rfl <;> omega
  · obtain ⟨r, hr', hx⟩ := List.mem_flatMap.1 hx
    obtain ⟨k1, k2, k3, k4, k5, k6, k7, k8⟩ := hr r hr'
    simp only [rnums, List.mem_cons, List.not_mem_nil, or_false] at hx
    rcases hx with rfl | rfl | rfl | rfl | rfl | rfl | rfl | rfl | rfl
    · exact k1
    · exact k2
    · exact k3
    · exact k4
    · exact k5
    · exact k6
    · exact k7
    · exact k8
    · unfold I64; split <;> omega
/-- A configuration's bytes tell it. -/
theorem encC_inj {bu co ou bu' co' ou' : Int} {l l' : List RuleT} (h : CfgOK bu co ou l) (h' : ∀ x ∈ cnums bu' co' ou' l', I64 x) (e : encC bu co ou l = encC bu' co' ou' l') : bu = bu' ∧ co = co' ∧ ou = ou' ∧ l = l' := by
  have hl : l.length = l'.length := by
    have := congrArg List.length e
    rw [encC_len, encC_len] at this; omega
  have h1 := nums_enc _ h.nums.1
  have h2 := nums_enc _ h'
  rw [cnums_len] at h1 h2
  have : cnums bu co ou l = cnums bu' co' ou' l' := by
    rw [← h1, ← h2, hl]
    unfold encC at e
    rw [e]
  unfold cnums at this
  obtain ⟨e1, e2⟩ := List.append_inj this rfl
  simp only [List.cons.injEq, and_true] at e1
  exact ⟨e1.1, e1.2.1, e1.2.2.1, flat9_inj e2⟩
end Go.Proofs.Ytgmhgpcfkkfolaa.Can
