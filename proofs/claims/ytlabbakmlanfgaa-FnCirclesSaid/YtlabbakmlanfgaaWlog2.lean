/- The law on LogNumber. No condition. -/
import Derived.Test.YtlabbakmlanfgaaWlog
namespace Go.Proofs.Ytlabbakmlanfgaa
open Go.RowKit Flo Iee
set_option linter.unusedVariables false
namespace TryWalk
theorem over_nan {s k : FloatKind} {x : Nat} (h : NaN s x = true) : over s x k = false := by simp [over, h]
theorem fconv_qn {s k : FloatKind} {x : Nat} (hne : s ≠ k) (h : NaN s x = true) : fconv s x k = qn k := by simp [fconv, fconv_nan hne h]
theorem fits_fconv {s k : FloatKind} {x : Nat} (h : Fits s x) : Fits k (fconv s x k) := by
  unfold fconv
  cases hc : floatToFloatBits s x k with
  | some r => exact fits_of_wf (floatToFloatBits_wf (wf_of_fits h) hc)
  | none => cases k <;> exact fits_of_wf (by decide)
theorem up_pos {x : Nat} (hf : Fits .f32 x) (h : FinW Ieee.single x) (hs : sgn Ieee.single x = false) (h0 : rung Ieee.single x ≠ 0) : 3936146074321813504 ≤ fconv .f32 x .f64 ∧ fconv .f32 x .f64 < 5183643171103440896 := by
  obtain ⟨g1, g2, g3, g4⟩ := fconv_up h
  have he := word_eta Ieee.double (fconv .f32 x .f64) (fits_fconv (k := .f64) hf)
  rw [g3, hs] at he
  have hy : rung Ieee.double (fconv .f32 x .f64) = fconv .f32 x .f64 := he
  have hmv0 : mv Ieee.single (rung Ieee.single x) ≠ 0 := fun e => h0 ((mv_eq_zero _ _).1 e)
  have hmv : mv Ieee.single (rung Ieee.single x) < 2 ^ (Ieee.single.fractionBits + 254) := by
    have h' : rung Ieee.single x < Ieee.single.infRung := h
    have e : Ieee.single.infRung = (254 + 1) * Ieee.single.binade := by decide +kernel
    rw [e] at h'
    have := mv_lt Ieee.single h'
    rwa [mv_pow] at this
  have e1 : 3936146074321813504 = (873 + 1) * Ieee.double.binade := by decide +kernel
  have e2 : 5183643171103440896 = (1150 + 1) * Ieee.double.binade := by decide +kernel
  rw [← hy, e1, e2]
  constructor
  · rw [← mv_le_iff Ieee.double, mv_pow, g4, show Ieee.double.fractionBits + 873 = sh from rfl]
    exact Nat.le_mul_of_pos_left _ (by omega)
  · rw [← mv_lt_iff Ieee.double, mv_pow, g4, show Ieee.double.fractionBits + 1150 = Ieee.single.fractionBits + 254 + sh from rfl, Nat.pow_add _ _ sh]
    exact Nat.mul_lt_mul_of_pos_right hmv (Nat.two_pow_pos _)
theorem infW (w : World) : Calls Try.prog 54 #[.int .i64 (-1)] w fun e w' => e = .returned (.float .f64 18442240474082181120) ∧ w = w' := by
  have h2 := f64from
  go_enter Try.func54, Try.ntmps54
  go_wp2
  go_ret
  exact ⟨rfl, rfl⟩

/-! ### the five kinds of floats -/
structure Zero (x : Nat) : Prop where
  x0 : (FloatKind.f32.format.order x 0 == some .eq) = true
  y1 : (FloatKind.f64.format.order (fconv .f32 x .f64) (fconv .f32 x .f64) != some .eq) = false
  y2 : (FloatKind.f64.format.order (fconv .f32 x .f64) 0 == some .lt) = false
  y3 : (FloatKind.f64.format.order (fconv .f32 x .f64) 0 == some .eq) = true
  yn : NaN .f64 (fconv .f32 x .f64) = false
structure Neg (x : Nat) : Prop where
  x0 : (FloatKind.f32.format.order x 0 == some .eq) = false
  x1 : (FloatKind.f32.format.order x 0 == some .lt) = true
  y1 : (FloatKind.f64.format.order (fconv .f32 x .f64) (fconv .f32 x .f64) != some .eq) = false
  y2 : (FloatKind.f64.format.order (fconv .f32 x .f64) 0 == some .lt) = true
  yn : NaN .f64 (fconv .f32 x .f64) = false
structure Inf (x : Nat) : Prop where
  x0 : (FloatKind.f32.format.order x 0 == some .eq) = false
  x1 : (FloatKind.f32.format.order x 0 == some .lt) = false
  x2 : (FloatKind.f32.format.order x x != some .eq) = false
  xf : fin .f32 x = false
  y1 : (FloatKind.f64.format.order (fconv .f32 x .f64) (fconv .f32 x .f64) != some .eq) = false
  y2 : (FloatKind.f64.format.order (fconv .f32 x .f64) 0 == some .lt) = false
  y3 : (FloatKind.f64.format.order (fconv .f32 x .f64) 0 == some .eq) = false
  y4 : (FloatKind.f64.format.order (fconv .f32 x .f64) 9218868437227405311 == some .gt) = true
  yn : NaN .f64 (fconv .f32 x .f64) = false
  back : fconv .f64 (fconv .f32 x .f64) .f32 = x ∧ over .f64 (fconv .f32 x .f64) .f32 = false
structure Pos (x : Nat) : Prop where
  x0 : (FloatKind.f32.format.order x 0 == some .eq) = false
  x1 : (FloatKind.f32.format.order x 0 == some .lt) = false
  x2 : (FloatKind.f32.format.order x x != some .eq) = false
  xf : fin .f32 x = true
  lo : 3936146074321813504 ≤ fconv .f32 x .f64
  hi : fconv .f32 x .f64 < 5183643171103440896
  yn : NaN .f64 (fconv .f32 x .f64) = false
theorem self_ok {k : FloatKind} {y : Nat} (h : NaN k y = false) : (k.format.order y y != some .eq) = false := by rw [order_self_neq, h]
theorem kinds (x : Nat) (hf : Fits .f32 x) : NaN .f32 x = true ∨ Zero x ∨ Neg x ∨ Inf x ∨ Pos x := by
  rcases three .f32 x with h | h | h
  · obtain ⟨g1, g2, g3, g4⟩ := fconv_up h
    have hy := self_ok (nan_of_fin (k := .f64) g1)
    have hx0 := order_zero (k := .f32) h
    have hy0 := order_zero (k := .f64) g1
    have hxl := lt_fin (k := .f32) h (fin_zero .f32)
    have hyl := lt_fin (k := .f64) g1 (fin_zero .f64)
    rw [sv_zero] at hxl hyl
    have e1 : FloatKind.f32.format = Ieee.single := rfl
    have e2 : FloatKind.f64.format = Ieee.double := rfl
    rw [e1] at hx0 hxl
    rw [e2] at hy0 hyl
    have ha := natAbs_sv Ieee.single x
    have hb := natAbs_sv Ieee.double (fconv .f32 x .f64)
    have hz := mv_eq_zero Ieee.single (rung Ieee.single x)
    have hz2 := mv_eq_zero Ieee.double (rung Ieee.double (fconv .f32 x .f64))
    have hpw := Nat.two_pow_pos sh
    by_cases h0 : rung Ieee.single x = 0
    · right; left
      have m0 := hz.2 h0
      have m1 : mv Ieee.double (rung Ieee.double (fconv .f32 x .f64)) = 0 := by rw [g4, m0, Nat.zero_mul]
      refine ⟨?_, hy, ?_, ?_, nan_of_fin (k := .f64) g1⟩
      · rw [e1, hx0, h0]; rfl
      · rw [e2, hyl]; apply decide_eq_false; omega
      · rw [e2, hy0, hz2.1 m1]; rfl
    · have m0 : mv Ieee.single (rung Ieee.single x) ≠ 0 := fun e => h0 (hz.1 e)
      have hx0' : (FloatKind.f32.format.order x 0 == some .eq) = false := by rw [e1, hx0]; exact decide_eq_false h0
      cases hs : sgn Ieee.single x
      · right; right; right; right
        have hsv : sv Ieee.single x = mv Ieee.single (rung Ieee.single x) := by unfold sv; rw [hs]; rfl
        obtain ⟨lo, hi⟩ := up_pos hf h hs h0
        exact ⟨hx0', by rw [e1, hxl]; apply decide_eq_false; omega, self_ok (nan_of_fin (k := .f32) h), fin_iff.2 h, lo, hi, nan_of_fin (k := .f64) g1⟩
      · right; right; left
        have hsv : sv Ieee.single x = -(mv Ieee.single (rung Ieee.single x) : Int) := by unfold sv; rw [hs]; rfl
        refine ⟨hx0', ?_, hy, ?_, nan_of_fin (k := .f64) g1⟩
        · rw [e1, hxl]; apply decide_eq_true; omega
        · rw [e2, hyl]; apply decide_eq_true
          have g3' : sgn Ieee.double (fconv .f32 x .f64) = true := by rw [g3, hs]
          unfold sv
          rw [g3', g4]
          have : 0 < mv Ieee.single (rung Ieee.single x) * 2 ^ sh := Nat.mul_pos (by omega) hpw
          simp only [if_true]
          omega
  · have hw := word_eta Ieee.single x hf
    have h' : rung Ieee.single x = Ieee.single.infRung := h
    rw [h'] at hw
    cases hs : sgn Ieee.single x
    · rw [hs] at hw
      right; right; right; left
      rw [← hw]
      exact ⟨by decide +kernel, by decide +kernel, by decide +kernel, by decide +kernel, by decide +kernel, by decide +kernel, by decide +kernel, by decide +kernel, by decide +kernel, by decide +kernel⟩
    · rw [hs] at hw
      right; right; left
      rw [← hw]
      exact ⟨by decide +kernel, by decide +kernel, by decide +kernel, by decide +kernel, by decide +kernel⟩
  · exact .inl h
end TryWalk
end Go.Proofs.Ytlabbakmlanfgaa
