/- States that come again: what a map that holds each state's place reads as. No condition. -/
import Derived.Maps.OwnSet
import Derived.WideKeyPair
import Derived.WalkArith
import Derived.Test.YtlbmmecjiopbbaaPm
namespace Go.Proofs.Ytlbmmecjiopbbaa.Mp
open Go Go.Maps
set_option linter.unusedVariables false
def keyL (s : Nat × Nat) : Lit := .string (keyBytes [.int .i64 (s.1 : Int), .int .i64 (s.2 : Int)])
def numD (n : Nat) : DataW Unit := .lit (.int .i64 (n : Int))
/-- Each of the first n states, with the last place at which it stands. -/
def seenD (s : Nat → Nat × Nat) : Nat → DataW Unit
  | 0 => .map []
  | n + 1 => (seenD s n).put (keyL (s n)) (numD n)
theorem seenD_map (s : Nat → Nat × Nat) (n : Nat) : IsMap (seenD s n) := by
  cases n with
  | zero => exact isMap_empty
  | succ n => exact (seenD_map s n).put _ _
theorem keyL_is (s : Nat × Nat) : WideAt.IsKeyLit (keyL s) := trivial
theorem seen_no (s : Nat → Nat × Nat) (n : Nat) (x : Nat × Nat) (hx : ∀ j, j < n → keyL x ≠ keyL (s j)) : Maps.has (seenD s n) (keyL x) = false := by
  induction n with
  | zero => rfl
  | succ n ih =>
    rw [seenD, has_put_other (hx n (by omega))]
    exact ih (fun j hj => hx j (by omega))
theorem seen_yes (s : Nat → Nat × Nat) (n i : Nat) (hi : i < n) (hx : ∀ j, i < j → j < n → keyL (s i) ≠ keyL (s j)) (z : DataW Unit) : Maps.has (seenD s n) (keyL (s i)) = true ∧ (seenD s n).atKey (keyL (s i)) z = numD i := by
  induction n with
  | zero => omega
  | succ n ih =>
    rw [seenD]
    by_cases e : i = n
    · subst e
      exact ⟨has_put_same (seenD_map s i) (keyL_is _) _, atKey_put_same (seenD_map s i) (keyL_is _) _ _⟩
    · have hne := hx n (by omega) (by omega)
      rw [has_put_other hne, atKey_put_other hne]
      exact ih (by omega) (fun j h1 h2 => hx j h1 (by omega))
theorem keyL_inj {P : Program} {k e : TypeId} (A : WideMaps.ArrKey P k e 2) (he : P.underlying e = some (.int .i64)) (hsz : ∃ m, P.types.size = m + 1) {s t : Nat × Nat} (hs : s.1 < 8 ∧ s.2 < 8) (ht : t.1 < 8 ∧ t.2 < 8) (h : keyL s = keyL t) : s = t := by
  have wf : ∀ n : Nat, n < 8 → (Lit.int .i64 (n : Int)).wf = true := fun n hn => Go.WalkArith.wf_i64 (by omega)
  have k1 := WideMaps.keyOf_pair A he hsz (wf _ hs.1) (wf _ hs.2)
  have k2 := WideMaps.keyOf_pair A he hsz (wf _ ht.1) (wf _ ht.2)
  have := A.law.inj k1 (by rw [k2]; exact congrArg some h.symm)
  obtain ⟨a, b⟩ := s
  obtain ⟨c, d⟩ := t
  simp at this
  obtain ⟨h1, h2⟩ := this
  have h1' : a = c := by exact_mod_cast h1
  have h2' : b = d := by exact_mod_cast h2
  subst h1' h2'
  rfl
end Go.Proofs.Ytlbmmecjiopbbaa.Mp
