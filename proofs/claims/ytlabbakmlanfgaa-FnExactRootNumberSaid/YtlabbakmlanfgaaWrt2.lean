/- The law on RootNumber: the walks. No condition. -/
import Derived.Test.YtlabbakmlanfgaaWrt
namespace Go.Proofs.Ytlabbakmlanfgaa
open Go.RowKit Flo Iee
set_option linter.unusedVariables false
namespace TryWalk
def rootS (x : Nat) : Nat := fconv .f64 (fsqrt (fconv .f32 x .f64)) .f32
theorem spRoot0 (x : Nat) (w : World) (hx : Fits .f32 x) : Calls Try.prog 61 #[.float .f32 x] w (RetF .f32 (rootS x) w) := by
  have HO := hid (root_over x)
  go_enter Try.func61, Try.ntmps61
  go_wp2_with (first | (refine wpList_up rfl _ _ _ rfl _ rfl hx u22 Try.underlying25 (Sim.refl _ _) ?_; intro r n hr hb) | (go_at_call 62; refine (sqrtW _ _ _ (by with_reducible assumption)).mono ?_; rintro e w' ⟨r, n, rfl, rfl, hr, hb⟩) | (go_at_call 79; refine (narrowW _ _ _ (by with_reducible assumption) (by with_reducible assumption) HO.out).mono ?_; rintro e w' ⟨r, n, rfl, rfl, hr, hb⟩))
  go_ret
  exact ⟨_, _, rfl, rfl, hr, hb⟩
theorem spRoot (x : Nat) (w : World) (hx : Fits .f32 x) : Calls Try.prog 32 #[.float .f32 x] w (RetF .f32 (rootS x) w) := by
  go_enter Try.func32, Try.ntmps32
  go_wp2_with (go_at_call 61; refine (spRoot0 _ _ hx).mono ?_; rintro e w' ⟨r, n, rfl, rfl, hr, hb⟩)
  go_ret
  exact ⟨_, _, rfl, rfl, hr, hb⟩
theorem imRoot (x : Nat) (w : World) (hx : Fits .f32 x) : Calls Try.prog 33 #[.float .f32 x] w (RetF .f32 (rootS x) w) := by
  have HO := hid (root_over x)
  go_enter Try.func33, Try.ntmps33
  go_wp2_with (first | (refine wpList_up rfl _ _ _ rfl _ rfl hx u22 Try.underlying25 (Sim.refl _ _) ?_; intro r n hr hb) | (go_at_call 62; refine (sqrtW _ _ _ (by with_reducible assumption)).mono ?_; rintro e w' ⟨r, n, rfl, rfl, hr, hb⟩) | (refine wpList_fcsim rfl _ _ _ rfl .f64 .f32 _ rfl (by with_reducible assumption) u25 Try.underlying22 (by decide) (by with_reducible assumption) ?_; intro r n hr hb))
  go_ret
  exact ⟨_, _, rfl, rfl, hr HO.out, hb⟩
theorem fnExactRootNumber (x : Nat) (w : World) (hx : (Lit.float .f32 x).wf = true) : Calls Try.prog 9 #[.float .f32 x] w fun e w' => e = .returned (.bool true) ∧ Below w.heap.size w w' := by
  have hf := fits_of_wf hx
  clear hx
  go_enter Try.func9, Try.ntmps9
  go_wp2_with (first | (go_at_call 32; refine (spRoot _ _ hf).mono ?_; rintro e w' ⟨r, n, rfl, rfl, hr, hb⟩) | (go_at_call 33; refine (imRoot _ _ hf).mono ?_; rintro e w' ⟨r, n, rfl, rfl, hr, hb⟩) | (refine wpList_up rfl _ _ _ rfl _ rfl (by with_reducible assumption) u22 Try.underlying25 (by with_reducible assumption) ?_; intro r n hr hb) | (go_at_call 17; refine (sameFloat _ _ _ (Sim.trans (by with_reducible assumption) (Sim.symm (by with_reducible assumption)))).mono ?_; rintro e w' ⟨rfl, n, rfl⟩))
  go_ret
  exact ⟨rfl, below_drewN (Below.refl _ _) _⟩
end TryWalk
end Go.Proofs.Ytlabbakmlanfgaa
