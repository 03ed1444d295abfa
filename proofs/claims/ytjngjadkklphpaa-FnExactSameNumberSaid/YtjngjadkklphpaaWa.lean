/- Walks of the small laws. -/
import Derived.Test.YtjngjadkklphpaaChecked
import Derived.Test.YtjngjadkklphpaaFlc
namespace Go.Proofs.Ytjngjadkklphpaa
open Go.RowKit Flo Iee
namespace TryWalk

theorem f32bits (b : Nat) (w : World) : (callFunc 29 #[.float .f32 b]).run Try.prog w = .ok (.value (.int .u32 b)) w := by kernel_rfl
theorem f64bits (b : Nat) (w : World) : (callFunc 37 #[.float .f64 b]).run Try.prog w = .ok (.value (.int .u64 b)) w := by kernel_rfl
theorem f64from (n : Int) (w : World) : (callFunc 36 #[.int .u64 n]).run Try.prog w = .ok (.value (.float .f64 n.toNat)) w := by kernel_rfl
theorem f32lt {x : Nat} (h : (Lit.float .f32 x).wf = true) : x < 2 ^ 32 := by simpa [Lit.wf] using h
theorem f64lt {x : Nat} (h : (Lit.float .f64 x).wf = true) : x < 2 ^ 64 := by simpa [Lit.wf] using h

theorem implFinite (x : Nat) (w : World) : Calls Try.prog 12 #[.float .f32 x] w fun e w' => e = .returned (.bool (isFin .f32 x)) ∧ ∃ n, w' = w.drewN n := by
  go_enter Try.func12, Try.ntmps12
  go_wp2_with (refine wpList_farith rfl .sub _ _ _ _ rfl rfl .f32 _ _ rfl rfl ?_; intro r n hr hb)
  go_ret
  exact ⟨by rw [isFin, ← order_congr hr (Sim.refl _ _)]; rfl, n, rfl⟩
theorem specFinite0 (x : Nat) (w : World) : Calls Try.prog 26 #[.float .f32 x] w fun e w' => e = .returned (.bool (isFin .f32 x)) ∧ ∃ n, w' = w.drewN n := by
  go_enter Try.func26, Try.ntmps26
  go_wp2_with (refine wpList_farith rfl .sub _ _ _ _ rfl rfl .f32 _ _ rfl rfl ?_; intro r n hr hb)
  go_ret
  exact ⟨by rw [isFin, ← order_congr hr (Sim.refl _ _)]; rfl, n, rfl⟩
theorem specFinite (x : Nat) (w : World) : Calls Try.prog 11 #[.float .f32 x] w fun e w' => e = .returned (.bool (isFin .f32 x)) ∧ ∃ n, w' = w.drewN n := by
  go_enter Try.func11, Try.ntmps11
  go_wp2_with (go_at_call 26; refine (specFinite0 _ _).mono ?_; rintro e w' ⟨rfl, n, rfl⟩)
  go_ret
  exact ⟨rfl, n, rfl⟩

theorem fnExactIsFinite (x : Nat) (w : World) (_hx : (Lit.float .f32 x).wf = true) : Calls Try.prog 4 #[.float .f32 x] w fun e w' => e = .returned (.bool true) ∧ Below w.heap.size w w' := by
  go_enter Try.func4, Try.ntmps4
  go_wp2_with (first | (go_at_call 11; refine (specFinite _ _).mono ?_; rintro e w' ⟨rfl, n, rfl⟩) | (go_at_call 12; refine (implFinite _ _).mono ?_; rintro e w' ⟨rfl, n, rfl⟩))
  go_ret
  exact ⟨rfl, below_drewN (Below.refl _ _) _⟩

/-! ### the bits -/
def bitsOf (x : Nat) : Nat := if NaN .f32 x then 2143289344 else x
theorem bitsOf_lt {x : Nat} (hx : x < 2 ^ 32) : bitsOf x < 2 ^ 32 := by unfold bitsOf; split <;> omega

theorem specBits (x : Nat) (w : World) (hx : x < 2 ^ 32) : Calls Try.prog 28 #[.float .f32 x] w fun e w' => e = .returned (.int .i64 (bitsOf x)) ∧ w = w' := by
  have h1 := f32bits x
  have hn := order_self_neq .f32 x
  have hw : (x : Int) < 4294967296 := by omega
  cases h : NaN .f32 x <;> rw [h] at hn
  · go_enter Try.func28, Try.ntmps28
    go_wp2
    go_ret
    exact ⟨by simp [bitsOf, h], rfl⟩
  · go_enter Try.func28, Try.ntmps28
    go_wp2
    go_ret
    exact ⟨by simp [bitsOf, h], rfl⟩

theorem spBitsOf (x : Nat) (w : World) (hx : x < 2 ^ 32) : Calls Try.prog 16 #[.float .f32 x] w fun e w' => e = .returned (.int .i64 (bitsOf x)) ∧ w = w' := by
  go_enter Try.func16, Try.ntmps16
  go_wp2_with (go_at_call 28; refine (specBits _ _ hx).mono ?_; rintro e w' ⟨rfl, rfl⟩)
  go_ret
  exact ⟨rfl, rfl⟩
theorem implBits (x : Nat) (w : World) (hx : x < 2 ^ 32) : Calls Try.prog 17 #[.float .f32 x] w fun e w' => e = .returned (.int .i64 (bitsOf x)) ∧ w = w' := by
  have h1 := f32bits x
  have hn := order_self_neq .f32 x
  have hw : (x : Int) < 4294967296 := by omega
  cases h : NaN .f32 x <;> rw [h] at hn
  · go_enter Try.func17, Try.ntmps17
    go_wp2
    go_ret
    exact ⟨by simp [bitsOf, h], rfl⟩
  · go_enter Try.func17, Try.ntmps17
    go_wp2
    go_ret
    exact ⟨by simp [bitsOf, h], rfl⟩
theorem fnExactBitsOf (x : Nat) (w : World) (hx : (Lit.float .f32 x).wf = true) : Calls Try.prog 6 #[.float .f32 x] w fun e w' => e = .returned (.bool true) ∧ Below w.heap.size w w' := by
  have hx' := f32lt hx
  clear hx
  go_enter Try.func6, Try.ntmps6
  go_wp2_with (first | (go_at_call 16; refine (spBitsOf _ _ hx').mono ?_; rintro e w' ⟨rfl, rfl⟩) | (go_at_call 17; refine (implBits _ _ hx').mono ?_; rintro e w' ⟨rfl, rfl⟩))
  go_ret
  exact ⟨rfl, Below.refl _ _⟩

/-! ### sameFloat -/
theorem sameFloat (a b : Nat) (w : World) (h : Sim .f64 a b) : Calls Try.prog 15 #[.float .f64 a, .float .f64 b] w fun e w' => e = .returned (.bool true) ∧ ∃ n, w' = w.drewN n := by
  have ha := order_self_neq .f64 a
  have hb := order_self_neq .f64 b
  have ha2 := order_self_iff .f64 a
  have hnn := h.nan
  cases hna : NaN .f64 a
  · have he : a = b := by
      rcases h with h | ⟨h, _⟩
      · exact h
      · rw [hna] at h; cases h
    subst he
    rw [hna] at ha ha2
    clear h hb hnn hna
    cases hz : (FloatKind.f64.format.order a 0 == some .eq)
    · go_enter Try.func15, Try.ntmps15
      go_wp2
      go_ret
      exact ⟨rfl, 0, rfl⟩
    · go_enter Try.func15, Try.ntmps15
      go_wp2_with (refine wpList_farith rfl .quo _ _ _ _ rfl rfl .f64 _ _ rfl rfl ?_; intro r n hr hb)
      go_ret
      rename_i r1 n1 h1 b1
      exact ⟨by simp [order_congr h1 (Sim.refl _ _), order_congr hr (Sim.refl _ _)], _, rfl⟩
  · rw [hna] at ha
    rw [← hnn, hna] at hb
    clear h ha2 hnn hna
    go_enter Try.func15, Try.ntmps15
    go_wp2
    go_ret
    exact ⟨rfl, 0, rfl⟩

end TryWalk
end Go.Proofs.Ytjngjadkklphpaa
