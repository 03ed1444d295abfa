/- The angle: the rebuild's walk, whatever the octant. No condition. -/
import Derived.Test.YtlabbakmlanfgaaCang1
namespace Go.Proofs.Ytlabbakmlanfgaa
open Go.RowKit Flo Iee
set_option linter.unusedVariables false
namespace TryWalk
theorem imAng (o sx sy : Bool) (x y : Nat) (w : World) (hfx : Fits .f32 x) (hfy : Fits .f32 y) (gx : FinW Ieee.double (fconv .f32 x .f64)) (gy : FinW Ieee.double (fconv .f32 y .f64)) (ho : (FloatKind.f64.format.order (fconv .f32 y .f64 % 9223372036854775808) (fconv .f32 x .f64 % 9223372036854775808) == some .gt) = o) (hfinx : fin .f32 x = true) (hfiny : fin .f32 y = true) (hsx : (FloatKind.f32.format.order x 0 == some .lt) = sx) (hsy : (FloatKind.f32.format.order y 0 == some .lt) = sy) (hz : (FloatKind.f32.format.order x 0 == some .eq) = true → (FloatKind.f32.format.order y 0 == some .eq) = false)
    (T : Nat) (hT : T = if o then fop .quo .f64 (fconv .f32 x .f64 % 9223372036854775808) (fconv .f32 y .f64 % 9223372036854775808) else fop .quo .f64 (fconv .f32 y .f64 % 9223372036854775808) (fconv .f32 x .f64 % 9223372036854775808)) (hov : over .f64 (An3 o sx sy T) .f32 = false) : Calls Try.prog 41 #[.float .f32 y, .float .f32 x] w (RetF .f32 (fconv .f64 (An3 o sx sy T) .f32) w) := by
  cases o <;> simp only [Bool.false_eq_true, if_false, if_true] at hT <;> subst hT <;> cases sx <;> cases sy
  · exact imAng000 x y w hfx hfy gx gy ho hfinx hfiny hsx hsy _ rfl hz hov
  · exact imAng001 x y w hfx hfy gx gy ho hfinx hfiny hsx hsy _ rfl hz hov
  · exact imAng010 x y w hfx hfy gx gy ho hfinx hfiny hsx hsy _ rfl hz hov
  · exact imAng011 x y w hfx hfy gx gy ho hfinx hfiny hsx hsy _ rfl hz hov
  · exact imAng100 x y w hfx hfy gx gy ho hfinx hfiny hsx hsy _ rfl hz hov
  · exact imAng101 x y w hfx hfy gx gy ho hfinx hfiny hsx hsy _ rfl hz hov
  · exact imAng110 x y w hfx hfy gx gy ho hfinx hfiny hsx hsy _ rfl hz hov
  · exact imAng111 x y w hfx hfy gx gy ho hfinx hfiny hsx hsy _ rfl hz hov
end TryWalk
end Go.Proofs.Ytlabbakmlanfgaa
