/- Walks of the sine, both ways. No condition. -/
import Derived.Test.YtlabbakmlanfgaaWbase
namespace Go.Proofs.Ytlabbakmlanfgaa
open Go.RowKit Flo Iee
set_option linter.unusedVariables false
namespace TryWalk

/-! ### what both compute -/
abbrev half : Nat := 4602678819172646912
abbrev quarter : Nat := 4598175219545276416
abbrev twoPi : Nat := 4618760256179416344
abbrev two : Nat := 4611686018427387904
/-- 8, 7, .. as floats. -/
def kb : Nat → Nat
  | 0 => 4620693217682128896
  | i + 1 => fop .sub .f64 (kb i) one
def cK (i : Nat) : Nat := fop .mul .f64 (fop .mul .f64 two (kb i)) (fop .add .f64 (fop .mul .f64 two (kb i)) one)
def polyF (u : Nat) : Nat → Nat
  | 0 => one
  | i + 1 => fop .sub .f64 one (fop .quo .f64 (fop .mul .f64 u (polyF u i)) (cK i))
def ge (x y : Nat) : Bool := FloatKind.f64.format.order x y == some .gt || FloatKind.f64.format.order x y == some .eq
def gt (x y : Nat) : Bool := FloatKind.f64.format.order x y == some .gt
def E1 (y : Nat) : Nat := if ge (fracF y) half then fop .sub .f64 (fracF y) half else fracF y
def E2 (y : Nat) : Nat := if gt (E1 y) quarter then fop .sub .f64 half (E1 y) else E1 y
def Z (y : Nat) : Nat := fop .mul .f64 (E2 y) twoPi
def res (y : Nat) : Nat := fop .mul .f64 (Z y) (polyF (fop .mul .f64 (Z y) (Z y)) 8)
def sineF (y : Nat) : Nat := if ge (fracF y) half then fneg .f64 (res y) else res y

theorem kb_ge : ∀ i, i < 8 → ge (kb i) one = true := by decide +kernel
theorem kb_end : ge (kb 8) one = false := by decide +kernel
theorem kb_dec : ∀ i, i < 8 → kb (i + 1) < kb i := by decide +kernel
theorem kb_nan : ∀ i, i < 9 → NaN .f64 (kb i) = false := by decide +kernel
theorem kb_int : ∀ i, i < 8 → floatOfInt .f64 ((2 * (8 - i) * (2 * (8 - i) + 1) : Nat) : Int) = cK i := by decide +kernel
theorem cK_big : ∀ i, i < 8 → FinW Ieee.double (cK i) ∧ 2 ^ un ≤ mv Ieee.double (rung Ieee.double (cK i)) := by
  have h : ∀ i, i < 8 → (decide (rung Ieee.double (cK i) < Ieee.double.infRung) && decide ((1022 + 1) * Ieee.double.binade ≤ rung Ieee.double (cK i))) = true := by decide +kernel
  intro i hi
  have h2 := h i hi
  simp only [Bool.and_eq_true, decide_eq_true_eq] at h2
  refine ⟨h2.1, ?_⟩
  have := (mv_le_iff Ieee.double _ _).2 h2.2
  rw [mv_pow, show Ieee.double.fractionBits + 1022 = un from rfl] at this
  exact this

/-! ### how great it is -/
theorem bd_half : Bd 1022 half := bd_lit (by decide +kernel)
theorem bd_twoPi : Bd 1025 twoPi := bd_lit (by decide +kernel)
theorem E2_bd {y : Nat} (h : Bd 1023 (fracF y)) : Bd 1025 (E2 y) := by
  have h1 : Bd 1024 (E1 y) := by
    unfold E1; split
    · exact (bd_sum h (bd_half.mono (by omega)) (by omega)).2
    · exact h.mono (by omega)
  unfold E2; split
  · exact (bd_sum (bd_half.mono (by omega)) h1 (by omega)).2
  · exact h1.mono (by omega)
theorem polyF_bd {u : Nat} (h : Bd 1034 u) : ∀ i, i ≤ 8 → Bd (1022 + 13 * i) (polyF u i) := by
  intro i
  induction i with
  | zero => intro _; exact bd_one
  | succ i ih =>
    intro hi
    have h1 := ih (by omega)
    have h2 : Bd (1034 + 13 * i) (fop .mul .f64 u (polyF u i)) := bd_mul h h1 (by omega) (by omega)
    obtain ⟨k1, k2⟩ := cK_big i (by omega)
    have h3 := bd_div h2 k1 k2 (by omega)
    exact ((bd_sum (bd_one.mono (by omega)) h3 (by omega)).2).mono (by omega)
theorem res_bd {y : Nat} (h : Bd 1023 (fracF y)) : Bd 1149 (res y) := by
  have hz : Bd 1028 (Z y) := bd_mul (E2_bd h) bd_twoPi (by omega) (by omega)
  have hu : Bd 1034 (fop .mul .f64 (Z y) (Z y)) := bd_mul hz hz (by omega) (by omega)
  have hp := polyF_bd hu 8 (by omega)
  have h2 : Bd 1132 (res y) := bd_mul hz hp (by omega) (by omega)
  exact h2.mono (by omega)
theorem sine_bd {y : Nat} (h : Bd 1023 (fracF y)) : Bd 1149 (sineF y) := by
  unfold sineF
  split
  · exact bd_neg (res_bd h) (fits_fop ..)
  · exact res_bd h
theorem sineF_fits (y : Nat) : Fits .f64 (sineF y) := by
  unfold sineF
  split
  · exact fits_neg (fits_fop ..)
  · exact fits_fop ..
end TryWalk
end Go.Proofs.Ytlabbakmlanfgaa
