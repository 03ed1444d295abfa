/- Decimal numerals, the plain law: which texts are a number's numeral, read by folding the digits and by parsing. No program in it. -/
import Derived.Lib.ItoaLen
import Derived.Lib.ParseIntBCases
import Derived.Lib.ParseIntBTie
namespace Go.Proofs.YtimablpgikebgaaDoor
namespace Dec
def addD (n : Nat) (c : UInt8) : Nat := if 48 ≤ c.toNat ∧ c.toNat ≤ 57 then 10 * n + (c.toNat - 48) else n
def foldV (l : List UInt8) (acc : Nat) : Nat := l.foldl addD acc
theorem digit_toNat (d : Nat) (h : d < 10) : (UInt8.ofNat (48 + d)).toNat = 48 + d := by
  rw [UInt8.toNat_ofNat']; omega
theorem dec_digit (u : Nat) : ∀ c ∈ Lib.decDigits u, 48 ≤ c.toNat ∧ c.toNat ≤ 57 := by
  induction u using Nat.strongRecOn with
  | ind u ih =>
    intro c hc
    rw [Lib.decDigits] at hc
    by_cases h : u < 10
    · rw [dif_pos h] at hc
      rw [List.mem_singleton.1 hc, digit_toNat u h]; omega
    · rw [dif_neg h] at hc
      rcases List.mem_append.1 hc with h1 | h1
      · exact ih (u / 10) (by omega) c h1
      · rw [List.mem_singleton.1 h1, digit_toNat (u % 10) (by omega)]; omega
theorem foldV_dec (u : Nat) : foldV (Lib.decDigits u) 0 = u := by
  induction u using Nat.strongRecOn with
  | ind u ih =>
    rw [Lib.decDigits]
    by_cases h : u < 10
    · rw [dif_pos h]
      show addD 0 _ = u
      unfold addD
      rw [digit_toNat u h, if_pos (by omega)]; omega
    · rw [dif_neg h]
      unfold foldV
      rw [List.foldl_append]
      have := ih (u / 10) (by omega)
      unfold foldV at this
      rw [this]
      show addD (u / 10) _ = u
      unfold addD
      rw [digit_toNat (u % 10) (by omega), if_pos (by omega)]; omega
theorem addD_lt {n i : Nat} (c : UInt8) (h : n < 10 ^ i) : addD n c < 10 ^ (i + 1) := by
  unfold addD
  rw [Nat.pow_succ]
  split <;> omega
theorem foldV_take (l : List UInt8) (i : Nat) (h : i < l.length) : foldV (l.take (i + 1)) 0 = addD (foldV (l.take i) 0) l[i] := by
  unfold foldV
  rw [List.take_succ_eq_append_getElem h, List.foldl_append]
  rfl
theorem foldV_lt (l : List UInt8) : ∀ i, foldV (l.take i) 0 < 10 ^ i
  | 0 => by simp [foldV]
  | i + 1 => by
    by_cases h : i < l.length
    · rw [foldV_take l i h]
      exact addD_lt _ (foldV_lt l i)
    · rw [List.take_of_length_le (by omega)]
      have := foldV_lt l i
      rw [List.take_of_length_le (by omega)] at this
      exact Nat.lt_of_lt_of_le this (Nat.pow_le_pow_right (by omega) (by omega))
def signed (l : List UInt8) : Int := if l.head? = some 45 then -(foldV l 0 : Int) else foldV l 0
def IsDec (l : List UInt8) (m : Int) : Prop := (-1000000000000000 ≤ m ∧ m ≤ 1000000000000000) ∧ Lib.itoa m = l
theorem nDig {u k : Nat} (h : u < 10 ^ k) (hk : 1 ≤ k) : Lib.nDigits u ≤ k := by
  rcases Nat.eq_zero_or_pos u with rfl | hu
  · rw [Lib.nDigits_small (by omega)]; exact hk
  · obtain ⟨j, hj1, hj2⟩ : ∃ j, 10 ^ j ≤ u ∧ u < 10 ^ (j + 1) := by
      have : ∀ k, u < 10 ^ k → ∃ j, 10 ^ j ≤ u ∧ u < 10 ^ (j + 1) := by
        intro k
        induction k with
        | zero => intro h0; simp at h0; omega
        | succ k ih =>
          intro h0
          by_cases hh : u < 10 ^ k
          · exact ih hh
          · exact ⟨k, by omega, h0⟩
      exact this k h
    rw [Lib.nDigits_unique j u hj1 hj2]
    by_cases hjk : j < k
    · exact hjk
    · have := Nat.pow_le_pow_right (n := 10) (by omega) (show k ≤ j by omega)
      omega
theorem itoa_cases (m : Int) : (m < 0 ∧ Lib.itoa m = 45 :: Lib.decDigits m.natAbs) ∨ (0 ≤ m ∧ Lib.itoa m = Lib.decDigits m.natAbs) := by
  by_cases h : m < 0
  · exact .inl ⟨h, by rw [Lib.itoa, if_pos h]⟩
  · exact .inr ⟨by omega, by rw [Lib.itoa, if_neg h]; congr 1; omega⟩
theorem dec_cons (u : Nat) : ∃ c r, Lib.decDigits u = c :: r ∧ 48 ≤ c.toNat ∧ c.toNat ≤ 57 := by
  have h := dec_digit u
  have hl := Lib.decDigits_length u
  have := Lib.nDigits_pos u
  cases hd : Lib.decDigits u with
  | nil => rw [hd] at hl; simp at hl; omega
  | cons c r => exact ⟨c, r, rfl, h c (by rw [hd]; simp)⟩
theorem IsDec.len {l : List UInt8} {m : Int} (h : IsDec l m) : 1 ≤ l.length ∧ l.length ≤ 17 := by
  obtain ⟨⟨h0, h1⟩, rfl⟩ := h
  have hn := nDig (u := m.natAbs) (k := 16) (by omega) (by omega)
  have hp := Lib.nDigits_pos m.natAbs
  rcases itoa_cases m with ⟨_, e⟩ | ⟨_, e⟩ <;> rw [e] <;> simp only [List.length_cons, Lib.decDigits_length] <;> omega
theorem signed_itoa (m : Int) : signed (Lib.itoa m) = m := by
  rcases itoa_cases m with ⟨h, e⟩ | ⟨h, e⟩
  · rw [e, signed, if_pos (show (45 :: Lib.decDigits m.natAbs : List UInt8).head? = some 45 from rfl)]
    have e1 : foldV (45 :: Lib.decDigits m.natAbs) 0 = foldV (Lib.decDigits m.natAbs) 0 := rfl
    rw [e1, foldV_dec]; omega
  · obtain ⟨c, r, hc, h1, h2⟩ := dec_cons m.natAbs
    rw [e, signed, if_neg, foldV_dec]
    · omega
    · rw [hc]
      intro hh
      simp at hh
      rw [hh] at h1
      exact absurd h1 (by decide)
theorem IsDec.val {l : List UInt8} {m : Int} (h : IsDec l m) : signed l = m := by rw [← h.2]; exact signed_itoa m
theorem IsDec.unique {l : List UInt8} {m k : Int} (h : IsDec l m) (g : IsDec l k) : m = k := h.val.symm.trans g.val
/-- What reading a numeral gives: the number and true, or nothing. -/
def decOf (l : List UInt8) : Int × Bool := if (-1000000000000000 ≤ signed l ∧ signed l ≤ 1000000000000000) ∧ Lib.itoa (signed l) = l then (signed l, true) else (0, false)
theorem decOf_of {l : List UInt8} {m : Int} (h : IsDec l m) : decOf l = (m, true) := by
  unfold decOf
  rw [h.val]
  exact if_pos h
theorem decOf_not {l : List UInt8} (h : ∀ m, ¬ IsDec l m) : decOf l = (0, false) := by
  unfold decOf
  exact if_neg (h (signed l))
theorem foldV_ge (l : List UInt8) : ∀ acc, acc ≤ foldV l acc := by
  induction l with
  | nil => intro acc; exact Nat.le_refl _
  | cons c r ih =>
    intro acc
    have := ih (addD acc c)
    have h2 : acc ≤ addD acc c := by unfold addD; split <;> omega
    exact Nat.le_trans h2 this
theorem parseM (l : List UInt8) : ∀ acc, (∀ c ∈ l, 48 ≤ c.toNat ∧ c.toNat ≤ 57) → foldV l acc ≤ 18446744073709551615 → Lib.parseUintM 18446744073709551615 acc l = .ok (foldV l acc) := by
  induction l with
  | nil => intro acc _ _; rfl
  | cons c r ih =>
    intro acc hd hle
    have hc := hd c (by simp)
    have ha : addD acc c = acc * 10 + (c.toNat - 48) := by unfold addD; rw [if_pos hc]; omega
    have hf : foldV (c :: r) acc = foldV r (addD acc c) := rfl
    have hg := foldV_ge r (addD acc c)
    rw [hf] at hle
    rw [Lib.parseUintM, if_pos hc, if_neg (by omega), if_neg (by omega), ← ha, hf]
    exact ih _ (fun x hx => hd x (by simp [hx])) hle
theorem parse_dec (u : Nat) (h : u ≤ 18446744073709551615) : Lib.parseUintB 64 (Lib.decDigits u) = .ok u := by
  obtain ⟨c, r, hc, _⟩ := dec_cons u
  unfold Lib.parseUintB
  rw [if_neg (by rw [hc]; simp)]
  have := parseM (Lib.decDigits u) 0 (dec_digit u) (by rw [foldV_dec]; exact h)
  rw [foldV_dec] at this
  exact this
theorem parse_itoa (m : Int) (h0 : -9223372036854775808 ≤ m) (h1 : m ≤ 9223372036854775807) : Lib.parseIntB 64 (Lib.itoa m) = .ok m := by
  rcases itoa_cases m with ⟨h, e⟩ | ⟨h, e⟩
  · rw [e, Lib.parseIntB_minus, parse_dec _ (by omega)]
    show (if 2 ^ (64 - 1) < m.natAbs then _ else Lib.NumEnd.ok (-(m.natAbs : Int))) = _
    rw [if_neg (by omega)]
    congr 1; omega
  · obtain ⟨c, r, hc, g1, g2⟩ := dec_cons m.natAbs
    rw [e, hc, Lib.parseIntB_plain 64 c r (by omega) (by omega), ← hc, parse_dec _ (by omega)]
    show (if 2 ^ (64 - 1) ≤ m.natAbs then _ else Lib.NumEnd.ok (m.natAbs : Int)) = _
    rw [if_neg (by omega)]
    congr 1; omega
theorem not_of_parse {l : List UInt8} (h : ∀ v, Lib.parseIntB 64 l ≠ .ok v) : ∀ m, ¬ IsDec l m := by
  intro m hm
  have := parse_itoa m (by have := hm.1.1; omega) (by have := hm.1.2; omega)
  rw [hm.2] at this
  exact h m this
theorem not_of_val {l : List UInt8} {v : Int} (h : Lib.parseIntB 64 l = .ok v) (hn : ¬ IsDec l v) : ∀ m, ¬ IsDec l m := by
  intro m hm
  have := parse_itoa m (by have := hm.1.1; omega) (by have := hm.1.2; omega)
  rw [hm.2, h] at this
  cases this
  exact hn hm
end Dec
end Go.Proofs.YtimablpgikebgaaDoor
