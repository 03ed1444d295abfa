/- Games: a table written row by row; the potential. No condition. -/
import Derived.Test.YtlbmmecjiopbbaaPg1
namespace Go.Proofs.Ytlbmmecjiopbbaa.Pg
set_option linter.unusedVariables false
/-- The first k cells of row i of f. -/
def rowOf (f : Nat → Nat → Int) (i : Nat) : Nat → List Int
  | 0 => []
  | k + 1 => rowOf f i k ++ [f i k]
/-- The first i rows, each of c cells. -/
def tabOf (f : Nat → Nat → Int) (c : Nat) : Nat → List Int
  | 0 => []
  | i + 1 => tabOf f c i ++ rowOf f i c
theorem rowOf_len (f : Nat → Nat → Int) (i k : Nat) : (rowOf f i k).length = k := by
  induction k with
  | zero => rfl
  | succ k ih => rw [rowOf, List.length_append, ih]; rfl
theorem tabOf_len (f : Nat → Nat → Int) (c i : Nat) : (tabOf f c i).length = i * c := by
  induction i with
  | zero => simp [tabOf]
  | succ i ih => rw [tabOf, List.length_append, ih, rowOf_len, Nat.succ_mul]
theorem rowOf_get (f : Nat → Nat → Int) (i k j : Nat) (h : j < k) : (rowOf f i k).getD j 0 = f i j := by
  induction k with
  | zero => omega
  | succ k ih =>
    rw [rowOf, List.getD_eq_getElem?_getD]
    rcases Nat.lt_or_eq_of_le (Nat.le_of_lt_succ h) with g | rfl
    · rw [List.getElem?_append_left (by rw [rowOf_len]; exact g), ← List.getD_eq_getElem?_getD]; exact ih g
    · rw [List.getElem?_append_right (by rw [rowOf_len]; exact Nat.le_refl _), rowOf_len]; simp
theorem tabOf_get (f : Nat → Nat → Int) (c n i k : Nat) (hi : i < n) (hk : k < c) : (tabOf f c n).getD (i * c + k) 0 = f i k := by
  induction n with
  | zero => omega
  | succ n ih =>
    rw [tabOf, List.getD_eq_getElem?_getD]
    rcases Nat.lt_or_eq_of_le (Nat.le_of_lt_succ hi) with g | rfl
    · have : (i + 1) * c ≤ n * c := Nat.mul_le_mul_right _ g
      rw [Nat.succ_mul] at this
      rw [List.getElem?_append_left (by rw [tabOf_len]; omega), ← List.getD_eq_getElem?_getD]; exact ih g
    · rw [List.getElem?_append_right (by rw [tabOf_len]; omega), tabOf_len, ← List.getD_eq_getElem?_getD]
      have : i * c + k - i * c = k := by omega
      rw [this]; exact rowOf_get f i c k hk
theorem rowOf_congr {f g : Nat → Nat → Int} {i k : Nat} (h : ∀ j, j < k → f i j = g i j) : rowOf f i k = rowOf g i k := by
  induction k with
  | zero => rfl
  | succ k ih => rw [rowOf, rowOf, ih (fun j hj => h j (by omega)), h k (by omega)]
theorem tabOf_congr {f g : Nat → Nat → Int} {c n : Nat} (h : ∀ i k, i < n → k < c → f i k = g i k) : tabOf f c n = tabOf g c n := by
  induction n with
  | zero => rfl
  | succ n ih => rw [tabOf, tabOf, ih (fun i k hi hk => h i k (by omega) hk), rowOf_congr (fun j hj => h n j (by omega) hj)]
/-- The program's potential and the reference's. -/
def potI (xs ys : List Int) (c i k : Nat) : Int := at2 ys c 0 k - at2 ys c 0 0 + at2 xs c i k - at2 xs c 0 k
def potS (xs ys : List Int) (c i k : Nat) : Int := at2 xs c i 0 - at2 xs c 0 0 + at2 ys c i k - at2 ys c i 0
/-- Whether both are one in the first k cells of row i; in the first n rows. -/
def okRow (xs ys : List Int) (c i : Nat) : Nat → Bool
  | 0 => true
  | k + 1 => okRow xs ys c i k && decide (potI xs ys c i k = potS xs ys c i k)
def okTab (xs ys : List Int) (c : Nat) : Nat → Bool
  | 0 => true
  | i + 1 => okTab xs ys c i && okRow xs ys c i c
theorem okRow_iff (xs ys : List Int) (c i k : Nat) : okRow xs ys c i k = true ↔ ∀ j, j < k → potI xs ys c i j = potS xs ys c i j := by
  induction k with
  | zero => simp [okRow]
  | succ k ih =>
    rw [okRow, Bool.and_eq_true, ih, decide_eq_true_iff]
    constructor
    · rintro ⟨h1, h2⟩ j hj
      rcases Nat.lt_or_eq_of_le (Nat.le_of_lt_succ hj) with g | rfl
      · exact h1 j g
      · exact h2
    · intro h; exact ⟨fun j hj => h j (by omega), h k (by omega)⟩
theorem okTab_iff (xs ys : List Int) (c n : Nat) : okTab xs ys c n = true ↔ ∀ i k, i < n → k < c → potI xs ys c i k = potS xs ys c i k := by
  induction n with
  | zero => simp [okTab]
  | succ n ih =>
    rw [okTab, Bool.and_eq_true, ih, okRow_iff]
    constructor
    · rintro ⟨h1, h2⟩ i k hi hk
      rcases Nat.lt_or_eq_of_le (Nat.le_of_lt_succ hi) with g | rfl
      · exact h1 i k g hk
      · exact h2 k hk
    · intro h; exact ⟨fun i k hi hk => h i k (by omega) hk, fun j hj => h n j (by omega) hj⟩
/-- The two checks, as they stand in the texts. -/
theorem chkI (xs ys : List Int) (c i k : Nat) : (potI xs ys c i k - potI xs ys c i 0 != at2 ys c i k - at2 ys c i 0) = !decide (potI xs ys c i k = potS xs ys c i k) := by
  unfold potI potS
  rw [bne, Bool.not_inj_iff, Bool.eq_iff_iff, beq_iff_eq, decide_eq_true_iff]; omega
theorem chkS (xs ys : List Int) (c i k : Nat) : (potS xs ys c i k - potS xs ys c 0 k != at2 xs c i k - at2 xs c 0 k) = !decide (potI xs ys c i k = potS xs ys c i k) := by
  unfold potI potS
  rw [bne, Bool.not_inj_iff, Bool.eq_iff_iff, beq_iff_eq, decide_eq_true_iff]; omega
theorem ok_no (xs ys : List Int) (c n i k : Nat) (hi : i < n) (hk : k < c) (h : potI xs ys c i k ≠ potS xs ys c i k) : okTab xs ys c n = false := by
  cases hb : okTab xs ys c n with
  | false => rfl
  | true => exact absurd ((okTab_iff _ _ _ _).mp hb i k hi hk) h
def potF (xs ys : List Int) (r c : Nat) : List Int := if okTab xs ys c r then tabOf (potI xs ys c) c r else []
theorem potF_s (xs ys : List Int) (r c : Nat) (h : okTab xs ys c r = true) : tabOf (potS xs ys c) c r = tabOf (potI xs ys c) c r :=
  tabOf_congr fun i k hi hk => ((okTab_iff _ _ _ _).mp h i k hi hk).symm
end Go.Proofs.Ytlbmmecjiopbbaa.Pg
