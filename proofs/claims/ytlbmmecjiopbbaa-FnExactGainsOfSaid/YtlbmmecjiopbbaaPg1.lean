/- Games: what the reference and the program compute in a table, and that it is the same. No condition. -/
import Derived.Below
namespace Go.Proofs.Ytlbmmecjiopbbaa.Pg
set_option linter.unusedVariables false
/-- The cell in row i and column k of a table of c columns. -/
def at2 (A : List Int) (c i k : Nat) : Int := A.getD (i * c + k) 0
/-- The least and the greatest of f 0 to f n. -/
def mnF (f : Nat → Int) : Nat → Int
  | 0 => f 0
  | n + 1 => min (mnF f n) (f (n + 1))
def mxF (f : Nat → Int) : Nat → Int
  | 0 => f 0
  | n + 1 => max (mxF f n) (f (n + 1))
theorem mxF_ge (f : Nat → Int) (n j : Nat) (h : j ≤ n) : f j ≤ mxF f n := by
  induction n with
  | zero => obtain rfl : j = 0 := by omega
            exact Int.le_refl _
  | succ n ih =>
    rcases Nat.lt_or_ge n j with h1 | h1
    · obtain rfl : j = n + 1 := by omega
      exact Int.le_max_right _ _
    · exact Int.le_trans (ih h1) (Int.le_max_left _ _)
theorem mxF_is (f : Nat → Int) (n : Nat) : ∃ j, j ≤ n ∧ mxF f n = f j := by
  induction n with
  | zero => exact ⟨0, Nat.le_refl _, rfl⟩
  | succ n ih =>
    obtain ⟨j, hj, he⟩ := ih
    rcases Int.le_total (mxF f n) (f (n + 1)) with h | h
    · exact ⟨n + 1, Nat.le_refl _, Int.max_eq_right h⟩
    · exact ⟨j, by omega, (Int.max_eq_left h).trans he⟩
/-- Row (or column) and value: of g 0 to g (n - 1) the first greatest one. -/
def topF (g : Nat → Int) : Nat → Int × Int
  | 0 => (0, 0)
  | n + 1 => if n = 0 ∨ (topF g n).2 < g n then (n, g n) else topF g n
def lowF (g : Nat → Int) : Nat → Int × Int
  | 0 => (0, 0)
  | n + 1 => if n = 0 ∨ g n < (lowF g n).2 then (n, g n) else lowF g n
/-- The rows with the greatest value among the first n, as the program gathers them. -/
def bR (f : Nat → Int) : Nat → List Int
  | 0 => []
  | n + 1 => if bR f n ≠ [] ∧ f n < f ((bR f n).getD 0 0).toNat then bR f n else if bR f n ≠ [] ∧ f ((bR f n).getD 0 0).toNat < f n then [(n : Int)] else bR f n ++ [(n : Int)]
theorem bR_spec (f : Nat → Int) (n : Nat) : bR f (n + 1) = ((List.range (n + 1)).filter (fun i => decide (f i = mxF f n))).map (fun i : Nat => (i : Int)) ∧ bR f (n + 1) ≠ [] := by
  induction n with
  | zero => simp [bR, mxF, List.range_succ]
  | succ n ih =>
    obtain ⟨ih1, ih2⟩ := ih
    have hne : (List.range (n + 1)).filter (fun i => decide (f i = mxF f n)) ≠ [] := by
      intro h; rw [h] at ih1; exact ih2 ih1
    obtain ⟨x, xs, hx⟩ := List.exists_cons_of_ne_nil hne
    have hxm : f x = mxF f n := by
      have : x ∈ (List.range (n + 1)).filter (fun i => decide (f i = mxF f n)) := by rw [hx]; exact List.mem_cons_self
      have := (List.mem_filter.mp this).2
      simpa using this
    have hhead : ((bR f (n + 1)).getD 0 0).toNat = x := by rw [ih1, hx]; simp
    have hle : ∀ i, i < n + 1 → f i ≤ mxF f n := fun i hi => mxF_ge f n i (by omega)
    rw [bR, hhead, hxm]
    rcases Int.lt_trichotomy (f (n + 1)) (mxF f n) with h | h | h
    · rw [if_pos ⟨ih2, h⟩]
      refine ⟨?_, ih2⟩
      have e : mxF f (n + 1) = mxF f n := Int.max_eq_left (by omega)
      rw [e, List.range_succ, List.filter_append, ih1]
      have : decide (f (n + 1) = mxF f n) = false := by simp; omega
      simp [this]
    · rw [if_neg (by omega), if_neg (by omega)]
      have e : mxF f (n + 1) = mxF f n := Int.max_eq_left (by omega)
      refine ⟨?_, by simp⟩
      rw [e, List.range_succ (n := n + 1), List.filter_append, ih1]
      simp [h]
    · rw [if_neg (by omega), if_pos ⟨ih2, h⟩]
      have e : mxF f (n + 1) = f (n + 1) := Int.max_eq_right (by omega)
      refine ⟨?_, by simp⟩
      rw [e, List.range_succ (n := n + 1), List.filter_append]
      have : (List.range (n + 1)).filter (fun i => decide (f i = f (n + 1))) = [] := by
        rw [List.filter_eq_nil_iff]
        intro i hi
        have := hle i (List.mem_range.mp hi)
        simp; omega
      simp [this]
theorem bR_mem (f : Nat → Int) (n : Nat) : ∀ x ∈ bR f n, ∃ j : Nat, j < n ∧ x = (j : Int) := by
  cases n with
  | zero => intro x hx; cases hx
  | succ n =>
    intro x hx
    rw [(bR_spec f n).1] at hx
    obtain ⟨i, hi, rfl⟩ := List.mem_map.mp hx
    exact ⟨i, List.mem_range.mp (List.mem_filter.mp hi).1, rfl⟩
theorem bR_head (f : Nat → Int) (n : Nat) : ∃ j : Nat, j ≤ n ∧ (bR f (n + 1)).getD 0 0 = (j : Int) ∧ f j = mxF f n := by
  obtain ⟨h1, h2⟩ := bR_spec f n
  cases h : (List.range (n + 1)).filter (fun i => decide (f i = mxF f n)) with
  | nil => rw [h] at h1; exact absurd h1 h2
  | cons x xs =>
    have hx : x ∈ (List.range (n + 1)).filter (fun i => decide (f i = mxF f n)) := by rw [h]; exact List.mem_cons_self
    obtain ⟨g1, g2⟩ := List.mem_filter.mp hx
    have := List.mem_range.mp g1
    exact ⟨x, by omega, by rw [h1, h]; simp, by simpa using g2⟩
/-- The rows that no other one exceeds, as the reference gathers them. -/
def sR (f : Nat → Int) (r n : Nat) : List Int := ((List.range n).filter (fun i => (List.range r).all (fun j => decide (f j ≤ f i)))).map (fun i : Nat => (i : Int))
theorem sR_eq_bR (f : Nat → Int) (r : Nat) (h : 0 < r) : sR f r r = bR f r := by
  obtain ⟨n, rfl⟩ : ∃ n, r = n + 1 := ⟨r - 1, by omega⟩
  rw [(bR_spec f n).1, sR]
  congr 1
  apply List.filter_congr
  intro i hi
  have hi := List.mem_range.mp hi
  rw [Bool.eq_iff_iff, List.all_eq_true, decide_eq_true_iff]
  constructor
  · intro g
    obtain ⟨j, hj, e⟩ := mxF_is f n
    have h1 := g j (List.mem_range.mpr (by omega))
    have h2 := mxF_ge f n i (by omega)
    simp only [decide_eq_true_eq] at h1
    omega
  · intro e j hj
    have := mxF_ge f n j (by have := List.mem_range.mp hj; omega)
    simp only [decide_eq_true_eq]; omega
/-- Gathered one by one. -/
def gath (p : Nat → Bool) : Nat → List Int
  | 0 => []
  | n + 1 => if p n = true then gath p n ++ [(n : Int)] else gath p n
theorem gath_eq (p : Nat → Bool) (n : Nat) : gath p n = ((List.range n).filter p).map (fun i : Nat => (i : Int)) := by
  induction n with
  | zero => rfl
  | succ n ih =>
    rw [gath, List.range_succ, List.filter_append, ih]
    cases h : p n <;> simp [h]
theorem gath_len (p : Nat → Bool) (n : Nat) : (gath p n).length ≤ n := by
  induction n with
  | zero => exact Nat.le_refl _
  | succ n ih =>
    rw [gath]; split
    · simp; omega
    · omega
theorem bR_len (f : Nat → Int) (n : Nat) : (bR f n).length ≤ n := by
  induction n with
  | zero => exact Nat.le_refl _
  | succ n ih =>
    rw [bR]; split
    · omega
    · split
      · simp
      · simp; omega
end Go.Proofs.Ytlbmmecjiopbbaa.Pg
