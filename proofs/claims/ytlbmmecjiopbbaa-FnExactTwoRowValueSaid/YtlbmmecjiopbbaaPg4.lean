/- Games: two rows: one try of a chance, as the program's closure does it. No condition. -/
import Derived.Test.YtlbmmecjiopbbaaPg1
import Derived.Test.YtlbmmecjiopbbaaPg2
namespace Go.Proofs.Ytlbmmecjiopbbaa.Pg
set_option linter.unusedVariables false
theorem mul_bd {a b A B : Int} (h1 : -A ≤ a) (h2 : a ≤ A) (g1 : -B ≤ b) (g2 : b ≤ B) : -(A * B) ≤ a * b ∧ a * b ≤ A * B := by
  have h : (a * b).natAbs = a.natAbs * b.natAbs := Int.natAbs_mul ..
  have e : ((A.toNat * B.toNat : Nat) : Int) = A * B := by
    rw [Int.natCast_mul, Int.toNat_of_nonneg (by omega), Int.toNat_of_nonneg (by omega)]
  have k : a.natAbs * b.natAbs ≤ A.toNat * B.toNat := Nat.mul_le_mul (by omega) (by omega)
  omega
/-- The least of f 0 to f (n - 1). -/
def lowV (f : Nat → Int) : Nat → Int
  | 0 => 0
  | n + 1 => if n = 0 ∨ f n < lowV f n then f n else lowV f n
theorem lowV_bd (f : Nat → Int) (M : Int) (hM : 0 ≤ M) (n : Nat) (h : ∀ k, k < n → -M ≤ f k ∧ f k ≤ M) : -M ≤ lowV f n ∧ lowV f n ≤ M := by
  induction n with
  | zero => simp [lowV]; omega
  | succ n ih =>
    rw [lowV]
    have := ih (fun k hk => h k (by omega))
    have := h n (by omega)
    split <;> omega
/-- What a chance x gains in column k, times its denominator. -/
def gainK (xs : List Int) (c : Nat) (x : Int × Int) (k : Nat) : Int := x.1 * at2 xs c 0 k + (x.2 - x.1) * at2 xs c 1 k
def worstV (xs : List Int) (c : Nat) (x : Int × Int) : Int := lowV (gainK xs c x) c
theorem gainK_bd {xs : List Int} {c k : Nat} {x : Int × Int} (h1 : 0 ≤ x.1) (h2 : x.1 ≤ x.2) (h3 : x.2 ≤ 4000) (ha : -1000 ≤ at2 xs c 0 k ∧ at2 xs c 0 k ≤ 1000) (hb : -1000 ≤ at2 xs c 1 k ∧ at2 xs c 1 k ≤ 1000) : -8000000 ≤ gainK xs c x k ∧ gainK xs c x k ≤ 8000000 := by
  unfold gainK
  have m1 := mul_bd (a := x.1) (A := 4000) (by omega) (by omega) ha.1 ha.2
  have m2 := mul_bd (a := x.2 - x.1) (A := 4000) (by omega) (by omega) hb.1 hb.2
  omega
theorem red_le (n d : Int) (hd : d ≠ 0) : (red n d).1.natAbs ≤ n.natAbs ∧ (red n d).2.natAbs ≤ d.natAbs := by
  have key : ∀ (a : Int) (g : Nat), (a.tdiv g).natAbs ≤ a.natAbs := fun a g => by
    rw [Int.natAbs_tdiv]; exact Nat.div_le_self _ _
  unfold red
  split
  · have := key (-n) (Int.gcd n d)
    have := key (-d) (Int.gcd n d)
    simp only; omega
  · exact ⟨key n _, key d _⟩
/-- A fraction without a common factor is the fraction, but for a factor. -/
theorem red_mul (y q : Int) (hq : 0 < q) : ∃ g : Int, 0 < g ∧ y = (red y q).1 * g ∧ q = (red y q).2 * g := by
  refine ⟨(Int.gcd y q : Nat), ?_, ?_, ?_⟩
  · have : 0 < Int.gcd y q := Nat.gcd_pos_of_pos_right _ (by omega)
    omega
  · unfold red; rw [if_neg (by omega)]; exact (Int.tdiv_mul_cancel (Int.gcd_dvd_left ..)).symm
  · unfold red; rw [if_neg (by omega)]; exact (Int.tdiv_mul_cancel (Int.gcd_dvd_right ..)).symm
theorem cmp_red {x y b q v u : Int} (hq : 0 < q) (h : (v, u) = red y q) : (0 < x * u - v * b ↔ 0 < x * q - y * b) ∧ (x * u - v * b = 0 ↔ x * q - y * b = 0) := by
  obtain ⟨g, hg, e1, e2⟩ := red_mul y q hq
  rw [← h] at e1 e2
  simp only at e1 e2
  have e : x * q - y * b = (x * u - v * b) * g := by
    rw [e1, e2, Int.sub_mul, ← Int.mul_assoc x u g, Int.mul_right_comm v g b]
  rw [e]
  constructor
  · constructor
    · intro h0; exact Int.mul_pos h0 hg
    · intro h0
      rcases Int.lt_or_le 0 (x * u - v * b) with h1 | h1
      · exact h1
      · have := Int.mul_nonpos_of_nonpos_of_nonneg h1 (Int.le_of_lt hg)
        omega
  · constructor
    · intro h0; rw [h0, Int.zero_mul]
    · intro h0
      rcases Int.mul_eq_zero.mp h0 with h1 | h1
      · exact h1
      · omega
/-- What a try of a of b makes of the best chance so far; (0, 0): none yet. -/
def tryF (V : Int × Int → Int) (cur : Int × Int) (a b : Int) : Int × Int :=
  if b ≠ 0 ∧ 0 ≤ (red a b).1 ∧ (red a b).1 ≤ (red a b).2 then (if cur.2 = 0 ∨ Better V (red a b) cur then red a b else cur) else cur
theorem tryF_cand (V : Int × Int → Int) (cur : Int × Int) (a b : Int) (h : 0 < cur.2) : tryF V cur a b = (cand a b).foldl (pick V) cur := by
  unfold tryF cand
  by_cases hc : b ≠ 0 ∧ 0 ≤ (red a b).1 ∧ (red a b).1 ≤ (red a b).2
  · rw [if_pos hc, if_pos hc, List.foldl_cons, List.foldl_nil, pick]
    by_cases hB : Better V (red a b) cur
    · rw [if_pos (.inr hB), if_pos hB]
    · rw [if_neg (fun hh => hh.elim (fun e => by omega) hB), if_neg hB]
  · rw [if_neg hc, if_neg hc, List.foldl_nil]
end Go.Proofs.Ytlbmmecjiopbbaa.Pg
