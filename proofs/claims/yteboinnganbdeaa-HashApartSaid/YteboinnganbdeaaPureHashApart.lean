/- Proved: keys of up to seven bytes and one length have unlike numbers, whatever the draws. For every input; no condition. -/
import Derived.Test.YteboinnganbdeaaPHashApartx2
import Derived.Test.YteboinnganbdeaaBase
import Derived.Test.YteboinnganbdeaaNum
namespace Go.Proofs.Yteboinnganbdeaa.Pure
open Go Go.RowKit Go.Proofs.Yteboinnganbdeaa Go.Proofs.Yteboinnganbdeaa.PHashApart Go.Proofs.YteboinnganbdeaaW.PrintWords Go.Proofs.YteboinnganbdeaaW.PrintLast Go.Proofs.YteboinnganbdeaaW.PrintMore
/-! ### The field's functions, on numbers from 0 on -/
theorem of_nat (x : Nat) (h : x < 18446744073709551616) : field_Of.f (x : Int) = some ((x % Num.P : Nat) : Int) := by
  unfold field_Of.f Num.P
  rw [Base.and_u64 61 (by decide) (x : Int) _ (by decide), Base.wu64_in _ (by omega) (by omega)]
  split
  · rw [Base.wu64_in _ (by omega) (by omega)]; congr 1; omega
  · congr 1; omega
theorem add_nat (a b : Nat) (ha : a < Num.P) (hb : b < Num.P) : field_Add.f (a : Int) (b : Int) = some (((a + b) % Num.P : Nat) : Int) := by
  unfold field_Add.f
  unfold Num.P at ha hb
  rw [Base.wu64_in _ (by omega) (by omega), ← Int.natCast_add, of_nat _ (by omega)]; rw [Option.bind_some]

theorem mul64_nat (a b : Nat) (ha : a < 18446744073709551616) (hb : b < 18446744073709551616) : bits_Mul64.f (a : Int) (b : Int) = some (((a * b / 18446744073709551616 : Nat) : Int), ((a * b % 18446744073709551616 : Nat) : Int)) := by
  obtain ⟨p00, h00⟩ : ∃ p, p = ((a : Int) % 4294967296) * ((b : Int) % 4294967296) := ⟨_, rfl⟩
  obtain ⟨p01, h01⟩ : ∃ p, p = ((a : Int) % 4294967296) * ((b : Int) / 4294967296) := ⟨_, rfl⟩
  obtain ⟨p10, h10⟩ : ∃ p, p = ((a : Int) / 4294967296) * ((b : Int) % 4294967296) := ⟨_, rfl⟩
  obtain ⟨p11, h11⟩ : ∃ p, p = ((a : Int) / 4294967296) * ((b : Int) / 4294967296) := ⟨_, rfl⟩
  obtain ⟨e, b00, b01, b10, b11⟩ := Base.upper a b p00 p01 p10 p11 (by omega) (by omega) (by omega) (by omega) h00 h01 h10 h11
  have m1 : Go.bits .and .u64 (a : Int) 4294967295 = (a : Int) % 4294967296 := Base.and_u64 32 (by decide) _ _ (by decide)
  have m2 : Go.bits .and .u64 (b : Int) 4294967295 = (b : Int) % 4294967296 := Base.and_u64 32 (by decide) _ _ (by decide)
  unfold bits_Mul64.f
  rw [m1, m2, ← h00, ← h01, ← h10, ← h11]
  rw [Base.wu64_in p00 (by omega) (by omega), Base.wu64_in p01 (by omega) (by omega), Base.wu64_in p10 (by omega) (by omega), Base.wu64_in p11 (by omega) (by omega)]
  obtain ⟨t, ht⟩ : ∃ t, t = p10 + p00 / 4294967296 := ⟨_, rfl⟩
  rw [← ht, Base.wu64_in t (by omega) (by omega)]
  have m3 : Go.bits .and .u64 t 4294967295 = t % 4294967296 := Base.and_u64 32 (by decide) _ _ (by decide)
  rw [m3, Base.wu64_in (t % 4294967296 + p01) (by omega) (by omega)]
  rw [Base.wu64_in (p11 + t / 4294967296) (by omega) (by omega)]
  rw [Base.wu64, Base.wu64, e]
  have hn : ((a * b : Nat) : Int) = p11 * 18446744073709551616 + (p10 + p01) * 4294967296 + p00 := by rw [Int.natCast_mul]; exact e
  obtain ⟨N, hN⟩ : ∃ N, N = a * b := ⟨_, rfl⟩
  rw [← hN] at hn
  rw [← hN]
  have e1 : (p11 + t / 4294967296 + (t % 4294967296 + p01) / 4294967296) % 18446744073709551616 = ((N / 18446744073709551616 : Nat) : Int) := by omega
  have e2 : (p11 * 18446744073709551616 + (p10 + p01) * 4294967296 + p00) % 18446744073709551616 = ((N % 18446744073709551616 : Nat) : Int) := by omega
  rw [e1, e2]

theorem mul_nat (a b : Nat) (ha : a < Num.P) (hb : b < Num.P) : field_Mul.f (a : Int) (b : Int) = some ((a * b % Num.P : Nat) : Int) := by
  have hN : a * b ≤ 2305843009213693950 * 2305843009213693950 := by
    unfold Num.P at ha hb
    exact Nat.mul_le_mul (by omega) (by omega)
  unfold field_Mul.f
  rw [mul64_nat a b (by unfold Num.P at ha; omega) (by unfold Num.P at hb; omega)]
  generalize a * b = N at hN
  rw [Option.bind_some]
  rw [Base.wu64_in _ (by omega) (by omega), Base.or_u64 3 _ _ (by omega) (by omega) (by omega) (by omega) (by omega) (by omega)]
  have e1 : ((N / 18446744073709551616 : Nat) : Int) * 8 + ((N % 18446744073709551616 : Nat) : Int) / 2305843009213693952 = ((N / 2305843009213693952 : Nat) : Int) := by omega
  rw [e1, of_nat _ (by omega)]
  rw [Option.bind_some]
  rw [Base.and_u64 61 (by decide) _ _ (by decide), Base.tmod_nn _ _ (by omega)]
  have e2 : ((N % 18446744073709551616 : Nat) : Int) % 2 ^ 61 % 2305843009213693951 = ((N % 2305843009213693952 % Num.P : Nat) : Int) := by unfold Num.P; omega
  rw [e2, add_nat _ _ (Nat.mod_lt _ Num.P_pos) (Nat.mod_lt _ Num.P_pos)]
  rw [Option.bind_some]
  congr 2
  unfold Num.P
  omega

/-! ### Functions by draws -/
def WfU (l : List Int) : Prop := ∀ x ∈ l, (Lit.int .u64 x).wf = true
theorem draw_nat (l : List Int) (hw : WfU l) (i : Int) (hi : 0 ≤ i) : ∃ d : Nat, hash_draw.f l i = some (d : Int) ∧ d < 18446744073709551616 := by
  unfold hash_draw.f
  by_cases h : i ≥ (l.length : Int)
  · exact ⟨0, by rw [if_pos h]; rfl, by decide⟩
  · rw [if_neg h, if_pos hi, if_pos (by omega)]
    have hlt : i.toNat < l.length := by omega
    have hm : rd l i ∈ l := by
      unfold rd
      rw [List.getD_eq_getElem?_getD, List.getElem?_eq_getElem hlt, Option.getD_some]
      exact List.getElem_mem hlt
    obtain ⟨h0, h1⟩ := Base.wf_u64 (hw _ hm)
    exact ⟨(rd l i).toNat, by rw [Int.toNat_of_nonneg h0], by omega⟩
theorem whole_nat (l : List Int) (hw : WfU l) (i : Int) (hi : 0 ≤ i) : ∃ d : Nat, hash_whole.f l i = some (d : Int) ∧ 1 ≤ d ∧ d < Num.P := by
  obtain ⟨d, hd, hlt⟩ := draw_nat l hw i hi
  unfold hash_whole.f
  rw [hd, Option.bind_some, Base.tmod_nn _ _ (by omega), Base.wu64_in _ (by omega) (by omega)]
  exact ⟨d % 2305843009213693950 + 1, by congr 1, by omega, by unfold Num.P; omega⟩
/-- A function as it may be: its numbers are below the prime, the first two from 1 on. -/
def RowOk (r : S28) : Prop := ∃ x a b : Nat, r = ⟨(x : Int), (a : Int), (b : Int)⟩ ∧ 1 ≤ x ∧ x < Num.P ∧ 1 ≤ a ∧ a < Num.P ∧ b < Num.P
theorem rows_l (l : List Int) (hw : WfU l) (n : Nat) (hn : n ≤ 9) : ∀ d, d ≤ n → ∀ acc : List S28, acc.length = n - d → (∀ r ∈ acc, RowOk r) → ∀ k, d < k →
    ∃ rs, hash_Rows.l0 k l acc (n : Int) ((n - d : Nat) : Int) = some rs ∧ rs.length = n ∧ ∀ r ∈ rs, RowOk r := by
  intro d
  induction d with
  | zero =>
    intro _ acc hl hok k hk
    obtain ⟨k, rfl⟩ : ∃ j, k = j + 1 := ⟨k - 1, by omega⟩
    exact ⟨acc, by rw [hash_Rows.l0, if_neg (by omega)], by omega, hok⟩
  | succ d ih =>
    intro hd acc hl hok k hk
    obtain ⟨k, rfl⟩ : ∃ j, k = j + 1 := ⟨k - 1, by omega⟩
    have w1 : wrap64 (3 * ((n - (d + 1) : Nat) : Int)) = 3 * ((n - (d + 1) : Nat) : Int) := Base.w64_in _ (by omega) (by omega)
    have w2 : wrap64 (3 * ((n - (d + 1) : Nat) : Int) + 1) = 3 * ((n - (d + 1) : Nat) : Int) + 1 := Base.w64_in _ (by omega) (by omega)
    have w3 : wrap64 (3 * ((n - (d + 1) : Nat) : Int) + 2) = 3 * ((n - (d + 1) : Nat) : Int) + 2 := Base.w64_in _ (by omega) (by omega)
    have w4 : wrap64 (((n - (d + 1) : Nat) : Int) + 1) = ((n - d : Nat) : Int) := by rw [Base.w64_in _ (by omega) (by omega)]; omega
    obtain ⟨x, hx, x1, x2⟩ := whole_nat l hw (3 * ((n - (d + 1) : Nat) : Int)) (by omega)
    obtain ⟨a, ha, a1, a2⟩ := whole_nat l hw (3 * ((n - (d + 1) : Nat) : Int) + 1) (by omega)
    obtain ⟨b, hb, b1⟩ := draw_nat l hw (3 * ((n - (d + 1) : Nat) : Int) + 2) (by omega)
    rw [hash_Rows.l0, if_pos (by omega), w1, hx, Option.bind_some, w2, ha, Option.bind_some, w3, hb, Option.bind_some, of_nat b b1, Option.bind_some, if_pos (by omega), w4]
    refine ih (by omega) _ (by rw [List.length_append, hl]; simp; omega) ?_ k (by omega)
    intro r hr
    rcases List.mem_append.mp hr with h | h
    · exact hok r h
    · rw [List.mem_singleton] at h
      exact ⟨x, a, b % Num.P, h, x1, x2, a1, a2, Nat.mod_lt _ Num.P_pos⟩
theorem rows_nat (l : List Int) (hw : WfU l) (n : Nat) (hn : n ≤ 9) (k : Nat) (hk : n < k) : ∃ rs, hash_Rows.f k l (n : Int) = some rs ∧ rs.length = n ∧ ∀ r ∈ rs, RowOk r := by
  unfold hash_Rows.f
  have e : mn (mx (n : Int) 0) 9 = (n : Int) := by unfold mn mx; split <;> split <;> omega
  obtain ⟨rs, h⟩ := rows_l l hw n hn n (by omega) [] (by simp) (by simp) k hk
  rw [Nat.sub_self] at h
  rw [e]
  exact ⟨rs, h⟩
theorem rd_row (rs : List S28) (hok : ∀ r ∈ rs, RowOk r) (i : Nat) (hi : i < rs.length) : RowOk (rd_T28 rs (i : Int)) := by
  unfold rd_T28
  rw [Int.toNat_natCast, List.getD_eq_getElem?_getD, List.getElem?_eq_getElem hi, Option.getD_some]
  exact hok _ (List.getElem_mem hi)

/-! ### A key's number -/
/-- The first i bytes as a number. -/
def wv (s : ByteArray) : Nat → Nat
  | 0 => 0
  | i + 1 => wv s i * 256 + (bt s (i : Int)).toNat
theorem wv_lt (s : ByteArray) : ∀ i, wv s i < 256 ^ i
  | 0 => by rw [wv]; decide
  | i + 1 => by
    have := wv_lt s i
    have h := bt_range s (i : Int)
    rw [wv, Nat.pow_succ]; omega
theorem word_l (s : ByteArray) (hs : s.size ≤ 7) : ∀ d i : Nat, i + d = s.size → ∀ k, d < k → hash_word.l0 k s (wv s i : Int) (s.size : Int) (i : Int) = some (wv s s.size : Int) := by
  intro d
  induction d with
  | zero =>
    intro i hi k hk
    obtain ⟨k, rfl⟩ : ∃ j, k = j + 1 := ⟨k - 1, by omega⟩
    have : i = s.size := by omega
    subst this
    rw [hash_word.l0, if_neg (by omega)]
  | succ d ih =>
    intro i hi k hk
    obtain ⟨k, rfl⟩ : ∃ j, k = j + 1 := ⟨k - 1, by omega⟩
    have h1 := wv_lt s i
    have h2 : 256 ^ i ≤ 256 ^ 6 := Nat.pow_le_pow_right (by decide) (by omega)
    have h3 := bt_range s (i : Int)
    have h4 : wv s i < 281474976710656 := Nat.lt_of_lt_of_le h1 h2
    have e : Go.bits .or .u64 (IntKind.u64.wrap ((wv s i : Int) * 256)) (IntKind.u64.wrap (bt s (i : Int))) = (wv s (i + 1) : Int) := by
      rw [Base.wu64_in _ (by omega) (by omega), Base.wu64_in _ (by omega) (by omega), Base.or_u64 8 _ _ (by omega) (by omega) (by omega) (by omega) (by omega) (by omega), wv]; omega
    rw [hash_word.l0, if_pos (by omega), if_pos (by omega), if_pos (by omega), e, Base.w64_in _ (by omega) (by omega)]
    exact ih (i + 1) (by omega) k (by omega)
theorem word_nat (s : ByteArray) (hs : s.size ≤ 7) (k : Nat) (hk : 7 < k) : hash_word.f k s = some (wv s s.size : Int) := by
  unfold hash_word.f
  exact word_l s hs s.size 0 (by omega) k (by omega)
theorem word_P (s : ByteArray) (hs : s.size ≤ 7) : wv s s.size < Num.P := by
  have h1 := wv_lt s s.size
  have h2 : 256 ^ s.size ≤ 256 ^ 7 := Nat.pow_le_pow_right (by decide) hs
  have h3 : 256 ^ 7 < Num.P := by decide
  omega
theorem line_nat (a b h : Nat) (hh : h < Num.P) (ha : a < Num.P) (hb : b < Num.P) : ((field_Mul.f (h : Int) (a : Int)).bind fun t => ((field_Add.f t (b : Int)).bind fun t => (some t))) = some (((h * a % Num.P + b) % Num.P : Nat) : Int) := by
  rw [mul_nat h a hh ha, Option.bind_some, add_nat _ b (Nat.mod_lt _ Num.P_pos) hb, Option.bind_some]
/-- From any place on: one number below the prime, of which the answer is the line's. -/
theorem of_l (s : ByteArray) (hs : s.size ≤ 140737488351232) (x : Nat) (hx : x < Num.P) : ∀ d i h : Nat, s.size ≤ i + 7 * d → i ≤ s.size + 7 → h < Num.P →
    ∃ z : Nat, z < Num.P ∧ ∀ a b : Nat, a < Num.P → b < Num.P → ∀ k, d + 8 < k → hash_Row_Of.l0 k s (h : Int) (i : Int) (x : Int) (a : Int) (b : Int) = some (((z * a % Num.P + b) % Num.P : Nat) : Int) := by
  intro d
  induction d with
  | zero =>
    intro i h hi _ hh
    refine ⟨h, hh, fun a b ha hb k hk => ?_⟩
    obtain ⟨k, rfl⟩ : ∃ j, k = j + 1 := ⟨k - 1, by omega⟩
    rw [hash_Row_Of.l0, if_neg (by omega)]
    exact line_nat a b h hh ha hb
  | succ d ih =>
    intro i h hi hi2 hh
    by_cases c : i < s.size
    · obtain ⟨e, he⟩ : ∃ e : Nat, e = min (i + 7) s.size := ⟨_, rfl⟩
      have hm : mn (wrap64 ((i : Int) + 7)) (s.size : Int) = (e : Int) := by
        rw [Base.w64_in _ (by omega) (by omega)]; unfold mn; split <;> omega
      have hsz : (s.extract i e).size ≤ 7 := by rw [ByteArray.size_extract]; omega
      obtain ⟨z, hz, hall⟩ := ih (i + 7) ((h * x % Num.P + wv (s.extract i e) (s.extract i e).size) % Num.P) (by omega) (by omega) (Nat.mod_lt _ Num.P_pos)
      refine ⟨z, hz, fun a b ha hb k hk => ?_⟩
      obtain ⟨k, rfl⟩ : ∃ j, k = j + 1 := ⟨k - 1, by omega⟩
      rw [hash_Row_Of.l0, if_pos (by omega), mul_nat h x hh hx, Option.bind_some, if_pos (by omega), hm, if_pos (by omega), if_pos (by omega), Int.toNat_natCast, Int.toNat_natCast, word_nat _ hsz k (by omega), Option.bind_some, add_nat _ _ (Nat.mod_lt _ Num.P_pos) (word_P _ hsz), Option.bind_some, Base.w64_in _ (by omega) (by omega)]
      exact hall a b ha hb k (by omega)
    · refine ⟨h, hh, fun a b ha hb k hk => ?_⟩
      obtain ⟨k, rfl⟩ : ∃ j, k = j + 1 := ⟨k - 1, by omega⟩
      rw [hash_Row_Of.l0, if_neg (by omega)]
      exact line_nat a b h hh ha hb
/-- A key's number is on the line of a number below the prime that hangs on the polynomial's place alone. -/
theorem of_key (s : ByteArray) (hs : s.size ≤ 140737488351232) (x : Nat) (hx : x < Num.P) :
    ∃ z : Nat, z < Num.P ∧ ∀ a b : Nat, a < Num.P → b < Num.P → ∀ k, s.size + 8 < k → hash_Row_Of.f k (x : Int) (a : Int) (b : Int) s = some (((z * a % Num.P + b) % Num.P : Nat) : Int) := by
  obtain ⟨z, hz, h⟩ := of_l s hs x hx s.size 0 (s.size + 1) (by omega) (by omega) (by unfold Num.P; omega)
  refine ⟨z, hz, fun a b ha hb k hk => ?_⟩
  unfold hash_Row_Of.f
  rw [Base.wu64_in (s.size : Int) (by omega) (by omega), Base.wu64_in _ (by omega) (by omega)]
  exact h a b ha hb k (by omega)

/-- The number of a key of up to seven bytes. -/
theorem of_short (s : ByteArray) (hs : s.size ≤ 7) (x a b : Nat) (hx : x < Num.P) (ha : a < Num.P) (hb : b < Num.P) (k : Nat) (hk : 20 < k) :
    hash_Row_Of.f k (x : Int) (a : Int) (b : Int) s = some ((((if s.size = 0 then 1 else ((s.size + 1) * x % Num.P + wv s s.size) % Num.P) * a % Num.P + b) % Num.P : Nat) : Int) := by
  unfold hash_Row_Of.f
  rw [Base.wu64_in (s.size : Int) (by omega) (by omega), Base.wu64_in _ (by omega) (by omega)]
  obtain ⟨k, rfl⟩ : ∃ j, k = j + 1 + 1 := ⟨k - 2, by omega⟩
  by_cases h0 : s.size = 0
  · rw [if_pos h0, hash_Row_Of.l0, if_neg (by omega), h0]
    exact line_nat a b 1 (by decide) ha hb
  · rw [if_neg h0]
    have hm : mn (wrap64 (0 + 7)) (s.size : Int) = (s.size : Int) := by
      rw [Base.w64_in _ (by omega) (by omega)]; unfold mn; split <;> omega
    have he : s.extract (0 : Int).toNat ((s.size : Int)).toNat = s := by
      rw [Int.toNat_natCast]; exact ByteArray.extract_zero_size
    rw [hash_Row_Of.l0, if_pos (by omega), show ((s.size : Int) + 1) = ((s.size + 1 : Nat) : Int) from rfl, mul_nat (s.size + 1) x (by unfold Num.P; omega) hx, Option.bind_some, if_pos (by omega), hm, if_pos (by omega), if_pos (by omega), he, word_nat s hs (k + 1) (by omega), Option.bind_some, add_nat _ _ (Nat.mod_lt _ Num.P_pos) (word_P s hs), Option.bind_some, Base.w64_in _ (by omega) (by omega)]
    rw [hash_Row_Of.l0, if_neg (by omega)]
    exact line_nat a b _ (Nat.mod_lt _ Num.P_pos) ha hb

theorem fit_true (k : Nat) (hk : 30 < k) : weighbridgelaw03_fit.f k = some true := by
  have hrow : hash_Rows.f k [] 1 = some [⟨1, 1, 0⟩] := by
    unfold hash_Rows.f
    obtain ⟨k, rfl⟩ : ∃ j, k = j + 1 + 1 := ⟨k - 2, by omega⟩
    have hd : ∀ i : Int, 0 ≤ i → hash_draw.f [] i = some 0 := fun i hi => by unfold hash_draw.f; rw [if_pos (by simpa using hi)]
    have hwh : ∀ i : Int, 0 ≤ i → hash_whole.f [] i = some 1 := fun i hi => by unfold hash_whole.f; rw [hd i hi, Option.bind_some]; rfl
    have h0 := of_nat 0 (by decide)
    rw [Nat.zero_mod] at h0
    have h0' : field_Of.f 0 = some 0 := h0
    rw [show mn (mx 1 0) 9 = 1 from by decide, hash_Rows.l0, if_pos (by decide), hwh _ (by decide +kernel), Option.bind_some, hwh _ (by decide +kernel), Option.bind_some, hd _ (by decide +kernel), Option.bind_some, h0', Option.bind_some, if_pos (by decide)]
    rw [hash_Rows.l0, if_neg (by decide +kernel)]
    rfl
  unfold weighbridgelaw03_fit.f
  rw [hrow, Option.bind_some, if_pos (by rfl), if_pos (by decide)]
  have h := of_short ⟨#[97]⟩ (by decide) 1 1 0 (by decide) (by decide) (by decide) k (by omega)
  have e : hash_Row_Of.f k ((rd_T28 [(⟨1, 1, 0⟩ : S28)] 0).f0) ((rd_T28 [(⟨1, 1, 0⟩ : S28)] 0).f1) ((rd_T28 [(⟨1, 1, 0⟩ : S28)] 0).f2) (⟨#[97]⟩ : ByteArray) = some 99 := h.trans (by decide +kernel)
  rw [e, Option.bind_some]
  rfl

theorem wv_inj (s t : ByteArray) : ∀ n, wv s n = wv t n → ∀ i, i < n → bt s (i : Int) = bt t (i : Int)
  | 0, _, i, hi => by omega
  | n + 1, h, i, hi => by
    have h1 := bt_range s (n : Int)
    have h2 := bt_range t (n : Int)
    rw [wv, wv] at h
    by_cases c : i = n
    · subst c; omega
    · exact wv_inj s t n (by omega) i (by omega)
theorem same_bytes (s t : ByteArray) (hsz : s.size = t.size) (h : ∀ i, i < s.size → bt s (i : Int) = bt t (i : Int)) : s = t := by
  apply ByteArray.ext_getElem hsz
  intro i h1 h2
  have e := h i h1
  rw [← bt_at s (i : Int) (by rw [Int.toNat_natCast]; exact h1), ← bt_at t (i : Int) (by rw [Int.toNat_natCast]; exact h2)] at e
  have e2 : (s[i].toNat : Int) = (t[i].toNat : Int) := e
  exact UInt8.toNat_inj.mp (by exact_mod_cast e2)
/-- Numbers below the prime that have the same number on a line of another slope than 0 are the same. -/
theorem line_inj (u v a b : Nat) (hu : u < Num.P) (hv : v < Num.P) (ha0 : 1 ≤ a) (ha : a < Num.P) (h : (u * a % Num.P + b) % Num.P = (v * a % Num.P + b) % Num.P) : u = v := by
  have h1 : u * a % Num.P = v * a % Num.P := by
    have := Nat.mod_lt (u * a) Num.P_pos
    have := Nat.mod_lt (v * a) Num.P_pos
    unfold Num.P at *; omega
  have hinv := Num.inv_one a (by rw [Nat.mod_eq_of_lt ha]; omega)
  obtain ⟨i, hi⟩ : ∃ i, i = a ^ (Num.P - 2) % Num.P := ⟨_, rfl⟩
  rw [← hi] at hinv
  have key : ∀ w, w < Num.P → w * a % Num.P * i % Num.P = w := by
    intro w hw
    rw [Nat.mul_mod, Nat.mod_mod, ← Nat.mul_mod, Nat.mul_assoc, Nat.mul_mod, hinv, Nat.mul_one, Nat.mod_mod, Nat.mod_eq_of_lt hw]
  rw [← key u hu, ← key v hv, h1]
theorem rounds (s t : ByteArray) (hs : s.size ≤ 7) (ht : t.size = s.size) (rs : List S28) (hok : ∀ r ∈ rs, RowOk r) (hl : rs.length ≤ 9) : ∀ d, d ≤ rs.length → ∀ k, d + 22 < k →
    weighbridgelaw03_HashApart.l0 k s t rs (rs.length : Int) ((rs.length - d : Nat) : Int) = some true := by
  intro d
  induction d with
  | zero =>
    intro _ k hk
    obtain ⟨k, rfl⟩ : ∃ j, k = j + 1 := ⟨k - 1, by omega⟩
    rw [weighbridgelaw03_HashApart.l0, if_neg (by omega)]
  | succ d ih =>
    intro hd k hk
    obtain ⟨k, rfl⟩ : ∃ j, k = j + 1 := ⟨k - 1, by omega⟩
    obtain ⟨x, a, b, hr, x1, x2, a1, a2, b1⟩ := rd_row rs hok (rs.length - (d + 1)) (by omega)
    rw [weighbridgelaw03_HashApart.l0, if_pos (by omega), if_pos (by omega), if_pos (by omega), hr]
    dsimp only
    rw [of_short s hs x a b x2 a2 b1 k (by omega), Option.bind_some, of_short t (by omega) x a b x2 a2 b1 k (by omega), Option.bind_some]
    have hP : ∀ w, w % Num.P < Num.P := fun w => Nat.mod_lt _ Num.P_pos
    have heq : ((((((if s.size = 0 then 1 else ((s.size + 1) * x % Num.P + wv s s.size) % Num.P) * a % Num.P + b) % Num.P : Nat) : Int)) == (((((if t.size = 0 then 1 else ((t.size + 1) * x % Num.P + wv t t.size) % Num.P) * a % Num.P + b) % Num.P : Nat) : Int))) = (s.toList == t.toList) := by
      rw [Bool.eq_iff_iff, beq_iff_eq, beq_iff_eq]
      constructor
      · intro h
        have h' := line_inj _ _ a b (by split <;> first | exact hP _ | decide) (by split <;> first | exact hP _ | decide) a1 a2 (Int.ofNat_inj.mp h)
        by_cases h0 : s.size = 0
        · rw [same_bytes s t ht.symm (fun i hi => by omega)]
        · rw [if_neg h0, if_neg (by omega), ht] at h'
          have e1 := word_P s hs
          have e2 := word_P t (by omega)
          have hw : wv s s.size = wv t s.size := by
            rw [ht] at e2
            have := hP ((s.size + 1) * x)
            generalize (s.size + 1) * x % Num.P = c at h' this
            unfold Num.P at *; omega
          rw [same_bytes s t ht.symm (wv_inj s t s.size hw)]
      · intro h
        have : s = t := by
          rw [ByteArray.toList_eq, ByteArray.toList_eq] at h
          have h2 : s.data = t.data := Array.toList_inj.mp h
          exact ByteArray.ext h2
        rw [this]
    rw [heq, bne_self_eq_false, if_neg Bool.false_ne_true, Base.w64_in _ (by omega) (by omega), show (((rs.length - (d + 1) : Nat) : Int) + 1) = ((rs.length - d : Nat) : Int) from by omega]
    exact ih (by omega) k (by omega)
theorem HashApart : weighbridgelaw03_HashApart.Pure := by
  intro l a b hl hl2 hw ha hb
  obtain ⟨rs, hrs, hlen, hok⟩ := rows_nat l hw 3 (by decide) 59 (by decide)
  have hrs' : hash_Rows.f 59 l 3 = some rs := hrs
  refine ⟨60, ?_⟩
  unfold weighbridgelaw03_HashApart.f
  rw [fit_true 60 (by decide), Option.bind_some, if_pos rfl]
  by_cases h1 : (l.length : Int) > 100
  · rw [if_pos h1, weighbridgelaw03_HashApart.j0, if_pos rfl]
  rw [if_neg h1]
  by_cases h2 : (a.size : Int) > 7
  · rw [if_pos h2, weighbridgelaw03_HashApart.j0, if_pos rfl]
  rw [if_neg h2, weighbridgelaw03_HashApart.j0]
  by_cases h3 : b.size = a.size
  · rw [h3, bne_self_eq_false, if_neg Bool.false_ne_true, hrs', Option.bind_some]
    have := rounds a b (by omega) h3 rs hok (by omega) 3 (by omega) 59 (by decide)
    rw [hlen] at this ⊢
    exact this
  · rw [if_pos (by rw [bne_iff_ne]; omega)]

end Go.Proofs.Yteboinnganbdeaa.Pure
