/- The angle that both ways compute, and how great it is. No condition. -/
import Derived.Test.YtlabbakmlanfgaaWrt
namespace Go.Proofs.Ytlabbakmlanfgaa
open Go.RowKit Flo Iee
set_option linter.unusedVariables false
namespace TryWalk
abbrev halfA : Nat := 4602678819172646912
abbrev quarterA : Nat := 4598175219545276416
abbrev twoPiA : Nat := 4618760256179416344
abbrev eight : Nat := 4620693217682128896
abbrev twoA : Nat := 4611686018427387904
def den (t : Nat) : Nat := fop .add .f64 one (fsqrt (fop .add .f64 one (fop .mul .f64 t t)))
def tS (t : Nat) : Nat → Nat
  | 0 => t
  | i + 1 => fop .quo .f64 (tS t i) (den (tS t i))
/-- 15, 13, .. as floats. -/
def ak : Nat → Nat
  | 0 => 4624633867356078080
  | i + 1 => fop .sub .f64 (ak i) twoA
def pA (u : Nat) : Nat → Nat
  | 0 => 0
  | i + 1 => fop .sub .f64 (fop .quo .f64 one (ak i)) (fop .mul .f64 u (pA u i))
def An0 (t : Nat) : Nat := fop .quo .f64 (fop .mul .f64 eight (fop .mul .f64 (tS t 3) (pA (fop .mul .f64 (tS t 3) (tS t 3)) 8))) twoPiA
theorem ak_ge : ∀ i, i < 8 → (FloatKind.f64.format.order (ak i) one == some .gt || FloatKind.f64.format.order (ak i) one == some .eq) = true := by decide +kernel
theorem ak_end : (FloatKind.f64.format.order (ak 8) one == some .gt || FloatKind.f64.format.order (ak 8) one == some .eq) = false := by decide +kernel
theorem ak_nan : ∀ i, i < 9 → NaN .f64 (ak i) = false := by decide +kernel
theorem ak_int : ∀ i : Nat, i < 8 → floatOfInt .f64 (15 - 2 * (i : Int)) = ak i := by decide +kernel
theorem ak_bd : ∀ i, i < 8 → bdB 1022 (fop .quo .f64 one (ak i)) = true := by decide +kernel
def bitsA : Value → Nat | .float _ b => b | _ => 0
def akM (v : Value) : Nat := (((List.range 9).find? fun i => ak i == bitsA v).map (8 - ·)).getD 0
theorem akM_dec : ∀ i, i < 8 → akM (.float .f64 (ak (i + 1))) < akM (.float .f64 (ak i)) := by decide +kernel

/-! ### how great it is -/
theorem pos_sum {s : Nat} (hs : Bd 1092 s) (hg : sgn Ieee.double s = false) : FinW Ieee.double (fop .add .f64 one s) ∧ 2 ^ un ≤ mv Ieee.double (rung Ieee.double (fop .add .f64 one s)) ∧ sgn Ieee.double (fop .add .f64 one s) = false ∧ Bd 1093 (fop .add .f64 one s) := by
  have hsum := (bd_sum (bd_one.mono (by omega)) hs (by omega)).1
  have h1 : sv Ieee.double one = ((2 ^ un : Nat) : Int) := by
    have e1 : sgn Ieee.double one = false := by decide +kernel
    have e2 : rung Ieee.double one = (1022 + 1) * Ieee.double.binade := by decide +kernel
    unfold sv
    rw [e1, e2, mv_pow, show Ieee.double.fractionBits + 1022 = un from rfl]
    rfl
  have h2 : sv Ieee.double s = ((mv Ieee.double (rung Ieee.double s) : Nat) : Int) := by unfold sv; rw [hg]; rfl
  have hT : sv Ieee.double one + sv Ieee.double s = ((2 ^ un + mv Ieee.double (rung Ieee.double s) : Nat) : Int) := by rw [h1, h2]; exact (Int.natCast_add _ _).symm
  have hge := rg_ge Ieee.double (2 ^ un + mv Ieee.double (rung Ieee.double s)) 1022 (by rw [show Ieee.double.fractionBits + 1022 = un from rfl]; exact Nat.le_add_right _ _)
  have hw := fop_add64 bd_one.1 hs.1
  rw [hT, Int.natAbs_natCast] at hw
  have hp := Nat.two_pow_pos un
  have hz : ¬ ((2 ^ un + mv Ieee.double (rung Ieee.double s) : Nat) : Int) = 0 := by
    generalize 2 ^ un = U at *
    omega
  have hn : decide (((2 ^ un + mv Ieee.double (rung Ieee.double s) : Nat) : Int) < 0) = false := by
    apply decide_eq_false
    generalize 2 ^ un = U at *
    omega
  rw [if_neg hz, hn] at hw
  have hlt := min_inf_lt Ieee.double (rg Ieee.double (2 ^ un + mv Ieee.double (rung Ieee.double s)))
  refine ⟨hsum.1, ?_, by rw [hw]; exact sgn_word _ _ hlt, hsum⟩
  rw [hw, rung_word _ _ hlt]
  have h5 : (1022 + 1) * Ieee.double.binade ≤ min (rg Ieee.double (2 ^ un + mv Ieee.double (rung Ieee.double s))) Ieee.double.infRung := by
    refine Nat.le_min.2 ⟨hge, ?_⟩
    rw [bin64, inf64]; omega
  have := (mv_le_iff Ieee.double _ _).2 h5
  rwa [mv_pow, show Ieee.double.fractionBits + 1022 = un from rfl] at this
theorem sq_ok {t : Nat} (h : Bd 1022 t) : Bd 1022 (fop .mul .f64 t t) ∧ sgn Ieee.double (fop .mul .f64 t t) = false := by
  refine ⟨bd_mul h h (by omega) (by omega), ?_⟩
  have hm : mv Ieee.double (rung Ieee.double t) * mv Ieee.double (rung Ieee.double t) ≤ 2 ^ (Ieee.double.fractionBits + 1022 + un) := by
    refine Nat.le_trans (Nat.mul_le_mul h.2 h.2) ?_
    rw [← Nat.pow_add]
    refine Nat.pow_le_pow_right (by decide) ?_
    have : Ieee.double.fractionBits = 52 := rfl
    rw [un_eq]; omega
  obtain ⟨r, h1, h2, h3⟩ := mul_le (f := Ieee.double) un 1022 (by rw [lp64]; rfl) h.1 h.1 hm
  have e : fop .mul .f64 t t = Ieee.double.word (sgn Ieee.double t ^^ sgn Ieee.double t) r := by
    unfold fop floatBits
    simp only
    rw [show FloatKind.f64.format.mul t t = _ from h1]
    rfl
  rw [e, sgn_word _ _ (Nat.lt_of_le_of_lt h3 (Ieee.Format.infRung_lt _)), Bool.xor_self]
theorem den_ok {t : Nat} (h : Bd 1022 t) : FinW Ieee.double (den t) ∧ 2 ^ un ≤ mv Ieee.double (rung Ieee.double (den t)) := by
  obtain ⟨q1, q2⟩ := sq_ok h
  obtain ⟨a1, a2, a3, a4⟩ := pos_sum (q1.mono (by omega)) q2
  obtain ⟨r, hr, hb, hg⟩ := sqrt_bd (a4.mono (by omega)) a3
  have e : fsqrt (fop .add .f64 one (fop .mul .f64 t t)) = r := by simp [fsqrt, hr]
  obtain ⟨b1, b2, b3, b4⟩ := pos_sum hb hg
  unfold den
  rw [e]
  exact ⟨b1, b2⟩
theorem tS_bd {t : Nat} (h : Bd 1022 t) : ∀ i, Bd 1022 (tS t i) := by
  intro i
  induction i with
  | zero => exact h
  | succ i ih => exact bd_div ih (den_ok ih).1 (den_ok ih).2 (by omega)
theorem pA_bd {u : Nat} (h : Bd 1022 u) : ∀ i, i ≤ 8 → Bd (1022 + i) (pA u i) := by
  intro i
  induction i with
  | zero => intro _; show Bd 1022 0; exact bd_lit (by decide +kernel)
  | succ i ih =>
    intro hi
    have h1 : Bd (1022 + i) (fop .mul .f64 u (pA u i)) := bd_mul h (ih (by omega)) (by omega) (by omega)
    exact (bd_sum ((bd_lit (ak_bd i (by omega))).mono (by omega)) h1 (by omega)).2
theorem twoPi_ok : FinW Ieee.double twoPiA ∧ 2 ^ un ≤ mv Ieee.double (rung Ieee.double twoPiA) := by
  have h : (decide (rung Ieee.double twoPiA < Ieee.double.infRung) && decide ((1022 + 1) * Ieee.double.binade ≤ rung Ieee.double twoPiA)) = true := by decide +kernel
  simp only [Bool.and_eq_true, decide_eq_true_eq] at h
  refine ⟨h.1, ?_⟩
  have := (mv_le_iff Ieee.double _ _).2 h.2
  rwa [mv_pow, show Ieee.double.fractionBits + 1022 = un from rfl] at this
theorem An0_bd {t : Nat} (h : Bd 1022 t) : Bd 1033 (An0 t) := by
  have ht := tS_bd h 3
  have hp := pA_bd (sq_ok ht).1 8 (by omega)
  have h1 : Bd 1030 (fop .mul .f64 (tS t 3) (pA (fop .mul .f64 (tS t 3) (tS t 3)) 8)) := bd_mul ht hp (by omega) (by omega)
  have h8 : Bd 1025 eight := bd_lit (by decide +kernel)
  have h2 := bd_mul (c := 1033) h8 h1 (by omega) (by omega)
  exact bd_div h2 twoPi_ok.1 twoPi_ok.2 (by omega)
theorem quo_one {x y : Nat} (hx : FinW Ieee.double x) (hy : FinW Ieee.double y) (h0 : rung Ieee.double y ≠ 0) (h : mv Ieee.double (rung Ieee.double x) ≤ mv Ieee.double (rung Ieee.double y)) : Bd 1022 (fop .quo .f64 x y) := by
  obtain ⟨r, h1, h2, h3⟩ := div_le2 (f := Ieee.double) un 1022 (by rw [lp64]; rfl) hx hy (by rw [show Ieee.double.fractionBits + 1022 = un from rfl]; exact Nat.le_refl _) h0 (by
    rw [show Ieee.double.fractionBits + 1022 = un from rfl, Nat.mul_comm]
    exact Nat.mul_le_mul_left _ h)
  have e : fop .quo .f64 x y = Ieee.double.word (sgn Ieee.double x ^^ sgn Ieee.double y) r := by
    unfold fop floatBits
    simp only
    rw [show FloatKind.f64.format.div x y = _ from h1]
    rfl
  rw [e]
  exact bd_word _ _ _ h2 (by omega)
def An1 (o : Bool) (t : Nat) : Nat := if o then fop .sub .f64 quarterA (An0 t) else An0 t
def An2 (o x : Bool) (t : Nat) : Nat := if x then fop .sub .f64 halfA (An1 o t) else An1 o t
def An3 (o x y : Bool) (t : Nat) : Nat := if y then fneg .f64 (An2 o x t) else An2 o x t
theorem fits_An0 (t : Nat) : Fits .f64 (An0 t) := fits_fop ..
theorem fits_An2 (o x : Bool) (t : Nat) : Fits .f64 (An2 o x t) := by
  unfold An2 An1
  split
  · exact fits_fop ..
  · split <;> exact fits_fop ..
theorem An3_bd (o x y : Bool) {t : Nat} (h : Bd 1022 t) : Bd 1035 (An3 o x y t) := by
  have h0 := An0_bd h
  have h1 : Bd 1034 (An1 o t) := by
    unfold An1; split
    · exact (bd_sum ((bd_lit (by decide +kernel) : Bd 1022 quarterA).mono (by omega)) h0 (by omega)).2
    · exact h0.mono (by omega)
  have h2 : Bd 1035 (An2 o x t) := by
    unfold An2; split
    · exact (bd_sum ((bd_lit (by decide +kernel) : Bd 1022 halfA).mono (by omega)) h1 (by omega)).2
    · exact h1.mono (by omega)
  unfold An3; split
  · exact bd_neg h2 (fits_An2 o x t)
  · exact h2
end TryWalk
end Go.Proofs.Ytlabbakmlanfgaa
