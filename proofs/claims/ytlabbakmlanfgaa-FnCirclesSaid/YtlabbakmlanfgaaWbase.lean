/- Walks of what the laws on floats share: signs, magnitudes, finiteness, conversion to the small kind. No condition. -/
import Derived.Test.YtlabbakmlanfgaaWsf
import Derived.Test.YtlabbakmlanfgaaFbd
namespace Go.Proofs.Ytlabbakmlanfgaa
open Go.RowKit Flo Iee
set_option linter.unusedVariables false
namespace TryWalk
/-- It returns a float that is the same as F. -/
def RetF (k : FloatKind) (F : Nat) (w : World) (e : Ending) (w' : World) : Prop := ∃ r n, e = .returned (.float k r) ∧ w' = w.drewN n ∧ Sim k r F ∧ Fits k r
theorem f32bits (b : Nat) (w : World) : (callFunc 87 #[.float .f32 b]).run Try.prog w = .ok (.value (.int .u32 b)) w := by kernel_rfl
theorem f32from (n : Int) (w : World) : (callFunc 88 #[.int .u32 n]).run Try.prog w = .ok (.value (.float .f32 n.toNat)) w := by kernel_rfl
theorem f64bits (b : Nat) (w : World) : (callFunc 78 #[.float .f64 b]).run Try.prog w = .ok (.value (.int .u64 b)) w := by kernel_rfl
theorem f64from (n : Int) (w : World) : (callFunc 77 #[.int .u64 n]).run Try.prog w = .ok (.value (.float .f64 n.toNat)) w := by kernel_rfl
theorem f32lt {x : Nat} (h : (Lit.float .f32 x).wf = true) : x < 2 ^ 32 := by simpa [Lit.wf] using h
theorem f64lt {x : Nat} (h : (Lit.float .f64 x).wf = true) : x < 2 ^ 64 := by simpa [Lit.wf] using h
theorem u22 : (Try.prog.underlying 22).isSome = true := by rw [Try.underlying22]; rfl
theorem u25 : (Try.prog.underlying 25).isSome = true := by rw [Try.underlying25]; rfl

/-! ### magnitude and sign of a great float -/
theorem andNot_top (x : Nat) (hx : x < 2 ^ 64) : (bits .andNot .u64 (x : Int) 9223372036854775808).toNat = x % 9223372036854775808 := by
  have h := u64_andNot_nat x 9223372036854775808 (by omega) (by decide)
  rw [show ((9223372036854775808 : Nat) : Int) = 9223372036854775808 from rfl] at h
  rw [h, Int.toNat_natCast]
  exact Nat.and_two_pow_sub_one_eq_mod x 63
theorem absW (x : Nat) (w : World) (hx : x < 2 ^ 64) : Calls Try.prog 59 #[.float .f64 x] w fun e w' => e = .returned (.float .f64 (x % 9223372036854775808)) ∧ w = w' := by
  have h1 := f64bits x
  have h2 := f64from
  have HA := hid (andNot_top x hx)
  go_enter Try.func59, Try.ntmps59
  go_wp2
  go_ret
  exact ⟨by rw [← HA.out]; rfl, rfl⟩
theorem nanW (w : World) : Calls Try.prog 55 #[] w fun e w' => e = .returned (.float .f64 9221120237041090561) ∧ w = w' := by
  have h2 := f64from
  go_enter Try.func55, Try.ntmps55
  go_wp2
  go_ret
  exact ⟨rfl, rfl⟩
theorem nanW_nan : NaN .f64 9221120237041090561 = true := by decide +kernel
theorem nanW_fits : Fits .f64 9221120237041090561 := fits_of_wf (by decide)

/-! ### finiteness -/
theorem implFinite (x : Nat) (w : World) : Calls Try.prog 56 #[.float .f32 x] w fun e w' => e = .returned (.bool (fin .f32 x)) ∧ ∃ n, w' = w.drewN n := by
  go_enter Try.func56, Try.ntmps56
  go_wp2_with (refine wpList_farith rfl .sub _ _ _ _ rfl rfl .f32 _ _ rfl rfl ?_; intro r n hr hb)
  go_ret
  exact ⟨by rw [← isFin_eq, isFin, ← order_congr hr (Sim.refl _ _)]; rfl, n, rfl⟩

/-! ### narrowing -/
theorem narrowW (x F : Nat) (w : World) (hs : Sim .f64 x F) (hf : Fits .f64 x) (ho : over .f64 F .f32 = false) : Calls Try.prog 79 #[.float .f64 x] w (RetF .f32 (fconv .f64 F .f32) w) := by
  go_enter Try.func79, Try.ntmps79
  go_wp2_with (refine wpList_fcsim rfl _ _ _ rfl .f64 .f32 _ rfl hf u25 Try.underlying22 (by decide) hs ?_; intro r n hr hb)
  go_ret
  exact ⟨r, n, rfl, rfl, hr ho, hb⟩
end TryWalk
end Go.Proofs.Ytlabbakmlanfgaa
