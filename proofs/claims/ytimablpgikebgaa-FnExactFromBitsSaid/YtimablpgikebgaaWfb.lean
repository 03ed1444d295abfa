/- The walk of FnExactFromBits. No condition. -/
import Derived.Test.YtimablpgikebgaaWsf
namespace Go.Proofs.Ytimablpgikebgaa
open Go.RowKit Flo Iee
set_option linter.unusedVariables false
namespace TryWalk
theorem f32from (n : Int) (w : World) : (callFunc 10 #[.int .u32 n]).run Try.prog w = .ok (.value (.float .f32 n.toNat)) w := by kernel_rfl
theorem spFrom (n : Int) (w : World) (h0 : 0 ≤ n) (h1 : n ≤ 4294967295) : Calls Try.prog 4 #[.int .i64 n] w fun e w' => e = .returned (.tuple #[.float .f32 n.toNat, .bool true]) ∧ w = w' := by
  have hf := f32from
  go_enter Try.func4, Try.ntmps4
  go_wp2
  go_ret2
  exact ⟨rfl, rfl⟩
theorem imFrom (n : Int) (w : World) (h0 : 0 ≤ n) (h1 : n ≤ 4294967295) : Calls Try.prog 5 #[.int .i64 n] w fun e w' => e = .returned (.tuple #[.float .f32 n.toNat, .bool true]) ∧ w = w' := by
  have hf := f32from
  go_enter Try.func5, Try.ntmps5
  go_wp2
  go_ret2
  exact ⟨rfl, rfl⟩
theorem spNo (n : Int) (w : World) (h : n < 0 ∨ 4294967295 < n) : Calls Try.prog 4 #[.int .i64 n] w fun e w' => e = .returned (.tuple #[.float .f32 0, .bool false]) ∧ w = w' := by
  rcases h with h | h
  · go_enter Try.func4, Try.ntmps4
    go_wp2
    go_ret2
    exact ⟨rfl, rfl⟩
  · have hd : decide (n ≤ 4294967295) = false := by simp; omega
    have h0 : 0 ≤ n := by omega
    go_enter Try.func4, Try.ntmps4
    go_wp2
    go_ret2
    exact ⟨rfl, rfl⟩
theorem imNo (n : Int) (w : World) (h : n < 0 ∨ 4294967295 < n) : Calls Try.prog 5 #[.int .i64 n] w fun e w' => e = .returned (.tuple #[.float .f32 0, .bool false]) ∧ w = w' := by
  rcases h with h | h
  · go_enter Try.func5, Try.ntmps5
    go_wp2
    go_ret2
    exact ⟨rfl, rfl⟩
  · have hd : decide (n ≤ 4294967295) = false := by simp; omega
    have h0 : 0 ≤ n := by omega
    go_enter Try.func5, Try.ntmps5
    go_wp2
    go_ret2
    exact ⟨rfl, rfl⟩
theorem fnExactFromBits (n : Int) (w : World) (hn : (Lit.int .i64 n).wf = true) : Calls Try.prog 3 #[.int .i64 n] w fun e w' => e = .returned (.bool true) ∧ Below w.heap.size w w' := by
  by_cases h : 0 ≤ n ∧ n ≤ 4294967295
  · obtain ⟨h0, h1⟩ := h
    have HF : Fits .f32 n.toNat := fits_of_wf (by simp [Lit.wf]; omega)
    clear hn
    go_enter Try.func3, Try.ntmps3
    go_wp2_with (first | (go_at_call 4; refine (spFrom _ _ h0 h1).mono ?_; rintro e w' ⟨rfl, rfl⟩) | (go_at_call 5; refine (imFrom _ _ h0 h1).mono ?_; rintro e w' ⟨rfl, rfl⟩) | (refine wpList_up rfl _ _ _ rfl _ rfl HF (by rw [Try.underlying22]; rfl) Try.underlying26 (Sim.refl _ _) ?_; intro r n hr hb) | (go_at_call 6; refine (sameFloat _ _ _ (Sim.trans (by assumption) (Sim.symm (by assumption)))).mono ?_; rintro e w' ⟨rfl, n, rfl⟩))
    go_ret
    exact ⟨rfl, below_drewN (Below.refl _ _) _⟩
  · have h' : n < 0 ∨ 4294967295 < n := by omega
    have HF : Fits .f32 0 := fits_of_wf (by decide)
    have H := hid h'
    clear hn h h'
    go_enter Try.func3, Try.ntmps3
    go_wp2_with (first | (go_at_call 4; refine (spNo _ _ H.out).mono ?_; rintro e w' ⟨rfl, rfl⟩) | (go_at_call 5; refine (imNo _ _ H.out).mono ?_; rintro e w' ⟨rfl, rfl⟩) | (refine wpList_up rfl _ _ _ rfl _ rfl HF (by rw [Try.underlying22]; rfl) Try.underlying26 (Sim.refl _ _) ?_; intro r n hr hb) | (go_at_call 6; refine (sameFloat _ _ _ (Sim.trans (by assumption) (Sim.symm (by assumption)))).mono ?_; rintro e w' ⟨rfl, n, rfl⟩))
    go_ret
    exact ⟨rfl, below_drewN (Below.refl _ _) _⟩
end TryWalk
end Go.Proofs.Ytimablpgikebgaa
