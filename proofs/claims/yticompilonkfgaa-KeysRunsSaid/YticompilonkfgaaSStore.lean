/- The keys' store as a map from places to keys, with a list of free places. No condition. -/
import Derived.Test.YticompilonkfgaaSKeys
namespace Go.Proofs.Yticompilonkfgaa.Can
open Go
set_option linter.unusedSimpArgs false
set_option linter.unusedVariables false
attribute [local congr] RunR_congr RunC_congr afterR_congr guardR_congr condQ_congr CALL_congr op_congr opg_congr

theorem setB_get : ∀ (l : List UInt8) (c : List UInt8) (o j : Nat), (setB c o l)[j]? = if o ≤ j ∧ j < o + l.length ∧ j < c.length then l[j - o]? else c[j]?
  | [], c, o, j => by
    rw [if_neg (by simp only [List.length_nil]; omega)]; rfl
  | v :: vs, c, o, j => by
    simp only [setB]
    rw [setB_get vs (c.set o v) (o + 1) j]
    simp only [List.length_set, List.length_cons, List.getElem?_set]
    by_cases h1 : o + 1 ≤ j ∧ j < o + 1 + vs.length ∧ j < c.length
    · rw [if_pos h1, if_pos (by omega), show j - o = (j - (o + 1)) + 1 by omega, List.getElem?_cons_succ]
    · rw [if_neg h1]
      by_cases h2 : o = j
      · subst h2
        by_cases h3 : o < c.length
        · rw [if_pos (show o ≤ o ∧ o < o + (vs.length + 1) ∧ o < c.length by omega), Nat.sub_self]
          simp [h3]
        · rw [if_neg (show ¬ (o ≤ o ∧ o < o + (vs.length + 1) ∧ o < c.length) by omega)]
          simp [h3]
      · rw [if_neg (show ¬ (o ≤ j ∧ j < o + (vs.length + 1) ∧ j < c.length) by omega)]
        simp [h2]

def Link (nx : List Int) : List Nat → Prop
  | [] => True
  | [i] => nx[i]? = some (-1)
  | i :: j :: r => nx[i]? = some (j : Int) ∧ Link nx (j :: r)
def first : List Nat → Int
  | [] => -1
  | i :: _ => i
def kset (f : Nat → Option ByteArray) (i : Nat) (v : Option ByteArray) : Nat → Option ByteArray := fun k => if k = i then v else f k

structure KS.Good (s : KS) (keys : Nat → Option ByteArray) (fl : List Nat) : Prop where
  fr : s.fr = first fl
  link : Link s.nx fl
  nodup : fl.Nodup
  lt : ∀ i ∈ fl, i < s.n
  free : ∀ i, i < s.n → (i ∈ fl ↔ keys i = none)
  gone : ∀ i, i < s.n → keys i = none → s.sz[i]? = some (-1)
  held : ∀ i k, i < s.n → keys i = some k → s.sz[i]? = some (k.size : Int) ∧ k.size ≤ 64 ∧ s.key i k.size = k
  us : s.us = (s.n : Int) - fl.length
  le : fl.length ≤ s.n

theorem Link.tail {nx : List Int} {i : Nat} {r : List Nat} (h : Link nx (i :: r)) : nx[i]? = some (first r) ∧ Link nx r := by
  cases r with
  | nil => exact ⟨h, trivial⟩
  | cons j r => exact h
theorem Link.set {nx : List Int} {k : Nat} {v : Int} : ∀ {l : List Nat}, k ∉ l → Link nx l → Link (nx.set k v) l
  | [], _, _ => trivial
  | [i], hk, h => by
    simp only [List.mem_singleton] at hk
    show (nx.set k v)[i]? = _
    rw [List.getElem?_set_ne hk]; exact h
  | i :: j :: r, hk, h => by
    simp only [List.mem_cons, not_or] at hk
    refine ⟨?_, Link.set (by simp only [List.mem_cons, not_or]; exact hk.2) h.2⟩
    rw [List.getElem?_set_ne hk.1]; exact h.1
theorem Link.cons {nx : List Int} {i : Nat} {r : List Nat} (h : nx[i]? = some (first r)) (hr : Link nx r) : Link nx (i :: r) := by
  cases r with
  | nil => exact h
  | cons j r => exact ⟨h, hr⟩

theorem good_put {s : KS} {keys : Nat → Option ByteArray} {i : Nat} {fl : List Nat} (g : s.Good keys (i :: fl)) (lb : s.by_.length = s.n * 64) (ls : s.sz.length = s.n) {key : ByteArray} (hk : key.size ≤ 64) : (s.put i (first fl) key).Good (kset keys i (some key)) fl := by
  have hi := g.lt i List.mem_cons_self
  have hni : i ∉ fl := (List.nodup_cons.1 g.nodup).1
  have hle := g.le
  have hus := g.us
  simp only [List.length_cons] at hle hus
  refine ⟨rfl, g.link.tail.2, (List.nodup_cons.1 g.nodup).2, fun k hk => g.lt k (List.mem_cons_of_mem _ hk), fun k hkn => ?_, fun k hkn hkk => ?_, fun k key' hkn hkk => ?_, ?_, show fl.length ≤ s.n by omega⟩
  · unfold kset
    by_cases hki : k = i
    · subst hki; simp [hni]
    · rw [if_neg hki, ← g.free k hkn]; simp [hki]
  · unfold kset at hkk
    split at hkk
    · simp at hkk
    · rename_i hki
      show (s.sz.set i _)[k]? = _
      rw [List.getElem?_set_ne (fun h => hki h.symm)]; exact g.gone k hkn hkk
  · unfold kset at hkk
    split at hkk
    · rename_i hki
      obtain rfl := Option.some.inj hkk
      subst hki
      refine ⟨?_, hk, ?_⟩
      · show (s.sz.set k _)[k]? = _
        rw [List.getElem?_set_self (by rw [ls]; exact hkn)]
      · show (⟨(((setB s.by_ (k * 64) key.data.toList).drop (k * 64)).take key.size).toArray⟩ : ByteArray) = key
        have : ((setB s.by_ (k * 64) key.data.toList).drop (k * 64)).take key.size = key.data.toList := by
          apply List.ext_getElem?
          intro j
          rw [List.getElem?_take, List.getElem?_drop, setB_get]
          have hks : key.data.toList.length = key.size := by simp
          by_cases hj : j < key.size
          · rw [if_pos hj, if_pos (by change k < s.n at hkn; omega), Nat.add_sub_cancel_left]
          · rw [if_neg hj, List.getElem?_eq_none (by omega)]
        rw [this]
    · rename_i hki
      obtain ⟨h1, h2, h3⟩ := g.held k key' hkn hkk
      refine ⟨?_, h2, ?_⟩
      · show (s.sz.set i _)[k]? = _
        rw [List.getElem?_set_ne (fun h => hki h.symm)]; exact h1
      · have : (s.put i (first fl) key).key k key'.size = s.key k key'.size := by
          unfold KS.key
          congr 2
          apply List.ext_getElem?
          intro j
          have hks : key.data.toList.length = key.size := by simp
          rw [List.getElem?_take, List.getElem?_take, List.getElem?_drop, List.getElem?_drop]
          split
          · show (setB s.by_ (i * 64) key.data.toList)[k * 64 + j]? = _
            rw [setB_get, if_neg (by rw [hks]; intro hc; rcases Nat.lt_or_gt_of_ne hki with h | h <;> omega)]
          · rfl
        rw [this]; exact h3
  · show s.us + 1 = _
    rw [hus]; simp only [KS.put]; omega

theorem nodup_le : ∀ (n : Nat) (l : List Nat), l.Nodup → (∀ x ∈ l, x < n) → l.length ≤ n
  | 0, [], _, _ => Nat.le_refl _
  | 0, x :: l, _, h => by have := h x List.mem_cons_self; omega
  | n + 1, l, hd, h => by
    have h1 := nodup_le n (l.erase n) (hd.erase n) fun x hx => by
      have h2 := (hd.mem_erase_iff).1 hx
      have h3 := h x h2.2
      have h4 := h2.1
      omega
    have h2 := List.length_erase (l := l) (a := n)
    split at h2 <;> omega
theorem good_free {s : KS} {keys : Nat → Option ByteArray} {k : Nat} {fl : List Nat} (g : s.Good keys fl) (ls : s.sz.length = s.n) (ln : s.nx.length = s.n) (hk : k < s.n) {key : ByteArray} (hkey : keys k = some key) : (s.free k).Good (kset keys k none) (k :: fl) := by
  have hni : k ∉ fl := fun h => by rw [(g.free k hk).1 h] at hkey; simp at hkey
  have hle := g.le
  have hus := g.us
  have hlt : fl.length < s.n := by
    rcases Nat.lt_or_ge fl.length s.n with h | h
    · exact h
    · exfalso
      have h3 := nodup_le s.n (k :: fl) (List.nodup_cons.2 ⟨hni, g.nodup⟩) fun x hx => by
        rcases List.mem_cons.1 hx with rfl | hx
        · exact hk
        · exact g.lt x hx
      simp only [List.length_cons] at h3
      omega
  refine ⟨rfl, ?_, List.nodup_cons.2 ⟨hni, g.nodup⟩, fun i hi => ?_, fun i hin => ?_, fun i hin hii => ?_, fun i key' hin hii => ?_, ?_, ?_⟩
  · refine Link.cons ?_ (Link.set hni g.link)
    show (s.nx.set k s.fr)[k]? = _
    rw [List.getElem?_set_self (by rw [ln]; exact hk), g.fr]
  · rcases List.mem_cons.1 hi with rfl | hi
    · exact hk
    · exact g.lt i hi
  · unfold kset
    by_cases hki : i = k
    · subst hki; simp
    · rw [if_neg hki, ← g.free i hin]; simp [hki]
  · unfold kset at hii
    show (s.sz.set k (-1))[i]? = _
    split at hii
    · rename_i h; subst h; rw [List.getElem?_set_self (by rw [ls]; exact hk)]
    · rename_i h; rw [List.getElem?_set_ne (fun h' => h h'.symm)]; exact g.gone i hin hii
  · unfold kset at hii
    split at hii
    · simp at hii
    · rename_i h
      obtain ⟨h1, h2, h3⟩ := g.held i key' hin hii
      refine ⟨?_, h2, h3⟩
      show (s.sz.set k (-1))[i]? = _
      rw [List.getElem?_set_ne (fun h' => h h'.symm)]; exact h1
  · show s.us - 1 = _
    rw [hus]; simp only [KS.free, List.length_cons]; omega
  · simp only [KS.free, List.length_cons]; omega

theorem link_nxs (n : Nat) : ∀ (m d : Nat), d + m = n → Link (nxs n) (List.range' d m)
  | 0, d, h => trivial
  | m + 1, d, h => by
    rw [List.range'_succ]
    refine Link.cons ?_ (link_nxs n m (d + 1) (by omega))
    have hd : (nxs n)[d]? = some (if d + 1 = n then -1 else (d : Int) + 1) := by simp [nxs, show d < n by omega]
    rw [hd]
    cases m with
    | zero => rw [if_pos (by omega)]; rfl
    | succ m => rw [if_neg (by omega), List.range'_succ]; rfl
theorem good_new (b n : Nat) : (KS.stage b n 0).Good (fun _ => none) (List.range n) := by
  refine ⟨?_, ?_, List.nodup_range, fun i hi => List.mem_range.1 hi, fun i hi => ?_, fun i hi _ => ?_, fun i k hi hk => by simp at hk, ?_, ?_⟩
  · simp only [KS.stage]
    cases n with
    | zero => rfl
    | succ n => rw [if_neg (by omega), List.range_succ_eq_map]; rfl
  · have := link_nxs n n 0 (by omega)
    rw [List.range_eq_range']
    simpa [KS.stage] using this
  · simp [KS.stage] at hi ⊢; exact hi
  · have hi' : i < n := hi
    simp [KS.stage, hi']
  · simp [KS.stage]
  · simp [KS.stage]

/-! ### what lies in memory -/
def Store (h : Heap) (p : Nat) (A : List Nat) (n : Nat) (keys : Nat → Option ByteArray) (fl : List Nat) : Prop :=
  ∃ s : KS, s.p = p ∧ s.own = A ∧ s.n = n ∧ s.At h ∧ s.Good keys fl

section
variable {h : Heap} {p : Nat} {A : List Nat} {n : Nat} {keys : Nat → Option ByteArray} {fl : List Nat}

theorem st_new (h : Heap) (n : Nat) (hn : n ≤ 65536) {Q : Value → Heap → Prop}
    (hQ : ∀ h', Store h' (h.next + 3) [h.next + 3, h.next, h.next + 1, h.next + 2] n (fun _ => none) (List.range n) → h'.next = h.next + 4 → (∀ b, b < h.next → h'.obj b = h.obj b) → Q (.pointer (some ⟨h.next + 3, 0, none⟩)) h') :
    CALL cp 8 [.int .i64 n] h Q :=
  new_ok h n hn fun h' hs hnx ho => hQ h' ⟨_, rfl, rfl, rfl, hs, good_new h.next n⟩ hnx ho

theorem st_put {i : Nat} (S : Store h p A n keys (i :: fl)) {key : ByteArray} (hk : key.size ≤ 64) {Q : Value → Heap → Prop}
    (hQ : ∀ h', Store h' p A n (kset keys i (some key)) fl → Kept h h' A → Q (.int .i64 i) h') : CALL cp 9 [.pointer (some ⟨p, 0, none⟩), .string key] h Q := by
  obtain ⟨s, rfl, rfl, rfl, hs, g⟩ := S
  have hi := g.lt i List.mem_cons_self
  have hle := g.le
  have hus := g.us
  simp only [List.length_cons] at hle hus
  exact put_ok hs key i (first fl) g.fr hi hk g.link.tail.1 (by omega) (by omega) fun h' hs' k => hQ h' ⟨s.put i (first fl) key, rfl, rfl, rfl, hs', good_put g hs.lb hs.ls hk⟩ k
theorem st_put_no (S : Store h p A n keys fl) {key : ByteArray} (hno : fl = [] ∨ 64 < key.size) (Q : Value → Heap → Prop) : CALL cp 9 [.pointer (some ⟨p, 0, none⟩), .string key] h Q ↔ Q (.int .i64 (-1)) h := by
  obtain ⟨s, rfl, rfl, rfl, hs, g⟩ := S
  refine put_no hs key ?_ Q
  rcases hno with h | h
  · left; rw [g.fr, h]; simp [first]
  · exact .inr h
theorem has_keys {s : KS} (g : s.Good keys fl) {k : Nat} (hk : k < s.n) : s.has k = (keys k).isSome := by
  unfold KS.has
  simp only [Int.toNat_natCast, List.getD_eq_getElem?_getD]
  cases hq : keys k with
  | none => rw [g.gone k hk hq]; simp
  | some key => rw [(g.held k key hk hq).1]; simp; omega
/-- No such place, or it is free. -/
def NoKey (n : Nat) (keys : Nat → Option ByteArray) (i : Int) : Prop := ∀ k : Nat, i = k → k < n → keys k = none
theorem has_no {s : KS} (g : s.Good keys fl) {i : Int} (hi : NoKey s.n keys i) : s.has i = false := by
  cases hq : s.has i with
  | false => rfl
  | true =>
    obtain ⟨k, z, rfl, hk, hz⟩ := has_inv hq
    have := hi k rfl hk
    rw [has_keys g hk, this] at hq
    simp at hq
theorem st_free (S : Store h p A n keys fl) {k : Nat} (hk : k < n) {key : ByteArray} (hkey : keys k = some key) {Q : Value → Heap → Prop}
    (hQ : ∀ h', Store h' p A n (kset keys k none) (k :: fl) → Kept h h' A → Q (.tuple #[]) h') : CALL cp 13 [.pointer (some ⟨p, 0, none⟩), .int .i64 k] h Q := by
  obtain ⟨s, rfl, rfl, rfl, hs, g⟩ := S
  have g' := good_free g hs.ls hs.ln hk hkey
  have h1 := g'.le
  have h2 := g.us
  simp only [List.length_cons] at h1
  change fl.length + 1 ≤ s.n at h1
  exact free_ok hs hk (g.held k key hk hkey).1 (by omega) (by omega) fun h' hs' kp => hQ h' ⟨s.free k, rfl, rfl, rfl, hs', g'⟩ kp
theorem st_free_no (S : Store h p A n keys fl) {i : Int} (hi : NoKey n keys i) (Q : Value → Heap → Prop) : CALL cp 13 [.pointer (some ⟨p, 0, none⟩), .int .i64 i] h Q ↔ Q (.tuple #[]) h := by
  obtain ⟨s, rfl, rfl, rfl, hs, g⟩ := S
  exact free_no hs (has_no g hi) Q
theorem st_key (S : Store h p A n keys fl) {k : Nat} (hk : k < n) {key : ByteArray} (hkey : keys k = some key) (Q : Value → Heap → Prop) : CALL cp 10 [.pointer (some ⟨p, 0, none⟩), .int .i64 k] h Q ↔ Q (.tuple #[.string key, .bool true]) h := by
  obtain ⟨s, rfl, rfl, rfl, hs, g⟩ := S
  obtain ⟨h1, h2, h3⟩ := g.held k key hk hkey
  rw [key_ok hs hk h1 h2, h3]
theorem st_key_no (S : Store h p A n keys fl) {i : Int} (hi : NoKey n keys i) (Q : Value → Heap → Prop) : CALL cp 10 [.pointer (some ⟨p, 0, none⟩), .int .i64 i] h Q ↔ Q (.tuple #[.string ⟨#[]⟩, .bool false]) h := by
  obtain ⟨s, rfl, rfl, rfl, hs, g⟩ := S
  exact key_no hs (has_no g hi) Q
theorem st_is (S : Store h p A n keys fl) {k : Nat} (hk : k < n) {key : ByteArray} (hkey : keys k = some key) (x : ByteArray) (Q : Value → Heap → Prop) : CALL cp 11 [.pointer (some ⟨p, 0, none⟩), .int .i64 k, .string x] h Q ↔ Q (.bool (key.toList == x.toList)) h := by
  obtain ⟨s, rfl, rfl, rfl, hs, g⟩ := S
  obtain ⟨h1, h2, h3⟩ := g.held k key hk hkey
  rw [is_ok hs hk h1 h2, h3]
theorem st_is_no (S : Store h p A n keys fl) {i : Int} (hi : NoKey n keys i) (x : ByteArray) (Q : Value → Heap → Prop) : CALL cp 11 [.pointer (some ⟨p, 0, none⟩), .int .i64 i, .string x] h Q ↔ Q (.bool false) h := by
  obtain ⟨s, rfl, rfl, rfl, hs, g⟩ := S
  exact is_no hs (has_no g hi) x Q
theorem st_len (S : Store h p A n keys fl) (Q : Value → Heap → Prop) : CALL cp 14 [.pointer (some ⟨p, 0, none⟩)] h Q ↔ Q (.int .i64 n) h := by
  obtain ⟨s, rfl, rfl, rfl, hs, g⟩ := S
  exact len_ok hs Q
theorem st_used (S : Store h p A n keys fl) (Q : Value → Heap → Prop) : CALL cp 12 [.pointer (some ⟨p, 0, none⟩)] h Q ↔ Q (.int .i64 ((n : Int) - fl.length)) h := by
  obtain ⟨s, rfl, rfl, rfl, hs, g⟩ := S
  rw [used_ok hs, g.us]
end
end Go.Proofs.Yticompilonkfgaa.Can
