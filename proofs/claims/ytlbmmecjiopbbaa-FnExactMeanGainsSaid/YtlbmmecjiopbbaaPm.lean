/- Games: states that come again. No condition. -/
import Derived.Below
namespace Go.Proofs.Ytlbmmecjiopbbaa.Pm
set_option linter.unusedVariables false
/-- Numbers below m, each once, are at most m. -/
theorem nodup_le (l : List Nat) (m : Nat) (h : l.Nodup) (hb : ∀ x ∈ l, x < m) : l.length ≤ m := by
  induction m generalizing l with
  | zero =>
    cases l with
    | nil => exact Nat.le_refl _
    | cons x l => exact absurd (hb x List.mem_cons_self) (Nat.not_lt_zero _)
  | succ m ih =>
    have h1 := ih (l.filter (fun x => decide (x ≠ m))) (h.filter _) (fun x hx => by
      obtain ⟨g1, g2⟩ := List.mem_filter.mp hx
      have := hb x g1
      have : x ≠ m := by simpa using g2
      omega)
    have h2 : l.length ≤ (l.filter (fun x => decide (x ≠ m))).length + 1 := by
      clear ih h1 hb
      induction l with
      | nil => simp
      | cons x l ih2 =>
        rw [List.nodup_cons] at h
        obtain ⟨hx, hl⟩ := h
        by_cases e : x = m
        · subst e
          have hf : l.filter (fun y => decide (y ≠ x)) = l := by
            rw [List.filter_eq_self]
            intro y hy
            simp only [decide_eq_true_eq]
            intro e; subst e; exact hx hy
          rw [List.filter_cons_of_neg (by simp), hf]; simp
        · have := ih2 hl
          simp [e]; simp at this; omega
    omega
/-- The first place n at which s comes again, having stood at place i. -/
structure Rep (s : Nat → Nat × Nat) (i n : Nat) : Prop where
  lt : i < n
  eq : s i = s n
  first : ∀ j k, j < k → k < n → s j ≠ s k
theorem Rep.uniq {s : Nat → Nat × Nat} {i n i' n' : Nat} (h : Rep s i n) (g : Rep s i' n') : i = i' ∧ n = n' := by
  have hn : n = n' := by
    rcases Nat.lt_trichotomy n n' with h1 | h1 | h1
    · exact absurd h.eq (g.first i n h.lt h1)
    · exact h1
    · exact absurd g.eq (h.first i' n' g.lt h1)
  subst hn
  refine ⟨?_, rfl⟩
  rcases Nat.lt_trichotomy i i' with h1 | h1 | h1
  · exact absurd (h.eq.trans g.eq.symm) (g.first i i' h1 g.lt)
  · exact h1
  · exact absurd (g.eq.trans h.eq.symm) (h.first i' i h1 h.lt)
def code (p : Nat × Nat) : Nat := p.1 * 8 + p.2
theorem code_lt {p : Nat × Nat} (h1 : p.1 < 8) (h2 : p.2 < 8) : code p < 64 := by unfold code; omega
theorem code_inj {p q : Nat × Nat} (h2 : p.2 < 8) (g2 : q.2 < 8) (h : code p = code q) : p = q := by
  unfold code at h
  obtain ⟨a, b⟩ := p
  obtain ⟨c, d⟩ := q
  simp only at *
  have : a = c := by omega
  have : b = d := by omega
  subst_vars; rfl
/-- As long as nothing has come again, at most 64 states have been. -/
theorem few {s : Nat → Nat × Nat} (hb : ∀ n, (s n).1 < 8 ∧ (s n).2 < 8) (n : Nat) (h : ∀ j k, j < k → k < n → s j ≠ s k) : n ≤ 64 := by
  have h1 := nodup_le ((List.range n).map fun m => code (s m)) 64 (by
    rw [List.nodup_iff_pairwise_ne, List.pairwise_map]
    refine List.Pairwise.imp_of_mem ?_ (List.pairwise_lt_range (n := n))
    intro j k hj hk hjk e
    exact h j k hjk (List.mem_range.mp hk) (code_inj (hb j).2 (hb k).2 e)) (by
    intro x hx
    obtain ⟨m, _, rfl⟩ := List.mem_map.mp hx
    exact code_lt (hb m).1 (hb m).2)
  simpa using h1
theorem exists_rep {s : Nat → Nat × Nat} (hb : ∀ n, (s n).1 < 8 ∧ (s n).2 < 8) : ∃ i n, Rep s i n ∧ n ≤ 64 := by
  have key : ∀ m, (∀ j k, j < k → k < m → s j ≠ s k) ∨ ∃ i n, Rep s i n := by
    intro m
    induction m with
    | zero => exact .inl (fun j k _ h => absurd h (Nat.not_lt_zero _))
    | succ m ih =>
      rcases ih with h | h
      · by_cases g : ∃ i, i < m ∧ s i = s m
        · obtain ⟨i, hi, he⟩ := g
          exact .inr ⟨i, m, hi, he, h⟩
        · left
          intro j k hjk hk
          rcases Nat.lt_or_eq_of_le (Nat.le_of_lt_succ hk) with h1 | rfl
          · exact h j k hjk h1
          · intro e; exact g ⟨j, hjk, e⟩
      · exact .inr h
  rcases key 65 with h | ⟨i, n, h⟩
  · have := few hb 65 h; omega
  · exact ⟨i, n, h, few hb n h.first⟩
end Go.Proofs.Ytlbmmecjiopbbaa.Pm
