/- sameFloat answers true for a float and the same float, or for two NaNs. No condition. -/
import Derived.Test.YtlabbakmlanfgaaChecked
import Derived.Test.YtlabbakmlanfgaaFlc
namespace Go.Proofs.Ytlabbakmlanfgaa
open Go.RowKit Flo Iee
set_option linter.unusedVariables false
namespace TryWalk
/-! ### sameFloat -/
theorem sameFloat (a b : Nat) (w : World) (h : Sim .f64 a b) : Calls Try.prog 17 #[.float .f64 a, .float .f64 b] w fun e w' => e = .returned (.bool true) ∧ ∃ n, w' = w.drewN n := by
  have ha := order_self_neq .f64 a
  have hb := order_self_neq .f64 b
  have ha2 := order_self_iff .f64 a
  have hnn := h.nan
  cases hna : NaN .f64 a
  · have he : a = b := by
      rcases h with h | ⟨h, _⟩
      · exact h
      · rw [hna] at h; cases h
    subst he
    rw [hna] at ha ha2
    clear h hb hnn hna
    cases hz : (FloatKind.f64.format.order a 0 == some .eq)
    · go_enter Try.func17, Try.ntmps17
      go_wp2
      go_ret
      exact ⟨rfl, 0, rfl⟩
    · go_enter Try.func17, Try.ntmps17
      go_wp2_with (refine wpList_farith rfl .quo _ _ _ _ rfl rfl .f64 _ _ rfl rfl ?_; intro r n hr hb)
      go_ret
      rename_i r1 n1 h1 b1
      exact ⟨by simp [order_congr h1 (Sim.refl _ _), order_congr hr (Sim.refl _ _)], _, rfl⟩
  · rw [hna] at ha
    rw [← hnn, hna] at hb
    clear h ha2 hnn hna
    go_enter Try.func17, Try.ntmps17
    go_wp2
    go_ret
    exact ⟨rfl, 0, rfl⟩

end TryWalk
end Go.Proofs.Ytlabbakmlanfgaa
