/- Small-kind floats: their bits, and which of them are subnormal. No condition. -/
import Derived.Test.YtlabbakmlanfgaaFbd
namespace Go.Proofs.Ytlabbakmlanfgaa.Flo
open Go Go.RowKit Iee
set_option linter.unusedVariables false
def bitsOf (x : Nat) : Nat := if NaN .f32 x then 2143289344 else x
theorem bitsOf_lt {x : Nat} (hx : x < 2 ^ 32) : bitsOf x < 2 ^ 32 := by unfold bitsOf; split <;> omega
theorem i64_and_nat (a b : Nat) (ha : a < 9223372036854775808) (hb : b < 9223372036854775808) : bits .and .i64 (a : Int) (b : Int) = ((a &&& b : Nat) : Int) := by
  have h1 : (BitVec.ofInt IntKind.i64.bits (a : Int)).toNat = a := ofInt_u64 a (by omega)
  have h2 : (BitVec.ofInt IntKind.i64.bits (b : Int)).toNat = b := ofInt_u64 b (by omega)
  have h3 : a &&& b ≤ a := Nat.and_le_left
  unfold bits
  simp only [BitVec.toNat_and, h1, h2]
  simp [IntKind.wrap, IntKind.bits, IntKind.signed]
  omega
theorem mask32 (x : Nat) (hx : x < 2 ^ 32) : x &&& 2139095040 = (x / 2 ^ 23 % 2 ^ 8) * 2 ^ 23 := by
  have h1 : (x &&& 2139095040) / 2 ^ 23 = x / 2 ^ 23 % 2 ^ 8 := by
    rw [Nat.and_div_two_pow]; exact Nat.and_two_pow_sub_one_eq_mod _ 8
  have h2 : (x &&& 2139095040) % 2 ^ 23 = 0 := by
    rw [Nat.and_mod_two_pow]; exact Nat.and_zero _
  have := Nat.div_add_mod (x &&& 2139095040) (2 ^ 23)
  rw [h1, h2] at this
  omega
theorem neq_zero (x : Nat) : (FloatKind.f32.format.order x 0 != some .eq) = !decide (rung Ieee.single x = 0) := by
  rw [bne]
  congr 1
  rcases three .f32 x with h | h | h
  · exact order_zero h
  · rw [order_zero_inf h]
    have h' : rung Ieee.single x = Ieee.single.infRung := h
    rw [h', inf32]; rfl
  · rw [order_nan_left h]
    rw [nan_iff] at h
    have h' : Ieee.single.infRung < rung Ieee.single x := of_decide_eq_true h
    rw [inf32] at h'
    have : ¬ rung Ieee.single x = 0 := by omega
    simp [this]
theorem spec_sub (x : Nat) (hx : x < 2 ^ 32) : (bits .and .i64 (bitsOf x : Int) 2139095040 == 0) = decide (rung Ieee.single x < 8388608) := by
  have hb := bitsOf_lt hx
  have h := i64_and_nat (bitsOf x) 2139095040 (by omega) (by decide)
  rw [show ((2139095040 : Nat) : Int) = 2139095040 from rfl] at h
  rw [h, mask32 _ hb]
  unfold bitsOf rung
  rw [sw32]
  cases hn : NaN .f32 x
  · rw [Bool.eq_iff_iff, beq_iff_eq, decide_eq_true_eq]
    simp only [Bool.false_eq_true, if_false]
    omega
  · rw [nan_iff] at hn
    have h' : Ieee.single.infRung < rung Ieee.single x := of_decide_eq_true hn
    unfold rung at h'
    rw [inf32, sw32] at h'
    have : ¬ x % 2 ^ 31 < 8388608 := by omega
    simp [this]
theorem impl_sub (x : Nat) : (FloatKind.f64.format.order (fconv .f32 x .f64 % 9223372036854775808) 4039728865751334912 == some .lt) = decide (rung Ieee.single x < 8388608) := by
  rcases three .f32 x with h | h | h
  · obtain ⟨h1, h2, h3, h4⟩ := fconv_up h
    have hf : FinW FloatKind.f64.format (fconv .f32 x .f64 % 9223372036854775808) := by
      unfold FinW; rw [(abs_rung _).1]; exact h1
    have hc : FinW FloatKind.f64.format 4039728865751334912 := by rw [← fin_iff]; decide +kernel
    have hsc : sv FloatKind.f64.format 4039728865751334912 = ((2 ^ 23 * 2 ^ sh : Nat) : Int) := by
      have e1 : sgn FloatKind.f64.format 4039728865751334912 = false := by decide +kernel
      have e2 : rung FloatKind.f64.format 4039728865751334912 = (896 + 1) * FloatKind.f64.format.binade := by decide +kernel
      unfold sv
      rw [e1, e2, mv_pow, ← Nat.pow_add, show FloatKind.f64.format.fractionBits + 896 = 23 + sh from rfl]
      simp only [Bool.false_eq_true, if_false]
    rw [order_fin hf hc, abs_sv, hsc]
    have h4' : mv FloatKind.f64.format (rung FloatKind.f64.format (fconv .f32 x .f64)) = mv Ieee.single (rung Ieee.single x) * 2 ^ sh := h4
    rw [h4', cmp_int]
    have hp := Nat.two_pow_pos sh
    have k1 : mv Ieee.single (rung Ieee.single x) * 2 ^ sh < 2 ^ 23 * 2 ^ sh ↔ rung Ieee.single x < 8388608 := by
      rw [Nat.mul_lt_mul_right hp]
      have e : (2 ^ 23 : Nat) = mv Ieee.single 8388608 := by decide +kernel
      rw [e, mv_lt_iff]
    have k2 : ((mv Ieee.single (rung Ieee.single x) * 2 ^ sh : Nat) : Int) < ((2 ^ 23 * 2 ^ sh : Nat) : Int) ↔ rung Ieee.single x < 8388608 := by rw [Int.ofNat_lt]; exact k1
    by_cases hr : rung Ieee.single x < 8388608
    · rw [if_pos (k2.2 hr)]; simp [hr]
    · rw [if_neg (fun h => hr (k2.1 h))]
      split <;> simp [hr]
  · have hc := conv_inf (s := .f32) (k := .f64) (by decide) h
    have e : fconv .f32 x .f64 = FloatKind.f64.format.word (sgn FloatKind.f32.format x) FloatKind.f64.format.infRung := by simp [fconv, hc]
    have hi : FloatKind.f64.format.infRung < FloatKind.f64.format.signWeight := Ieee.Format.infRung_lt _
    have hr : rung FloatKind.f64.format (fconv .f32 x .f64 % 9223372036854775808) = FloatKind.f64.format.infRung := by
      rw [(abs_rung _).1, e, rung_word _ _ hi]
    have hcst : FinW FloatKind.f64.format 4039728865751334912 := by rw [← fin_iff]; decide +kernel
    rw [order_inf hr hcst, (abs_rung _).2]
    have h' : rung Ieee.single x = Ieee.single.infRung := h
    rw [h', inf32]; rfl
  · have hn := nan_fconv (s := .f32) (k := .f64) (by decide) h
    rw [order_nan_left (by rw [abs_nan]; exact hn)]
    rw [nan_iff] at h
    have h' : Ieee.single.infRung < rung Ieee.single x := of_decide_eq_true h
    rw [inf32] at h'
    have : ¬ rung Ieee.single x < 8388608 := by omega
    simp [this]

def subB (x : Nat) : Bool := !decide (rung Ieee.single x = 0) && decide (rung Ieee.single x < 8388608)

theorem top32 (x : Nat) (hx : x < 2 ^ 32) : x &&& 2147483648 = (x / 2 ^ 31 % 2) * 2 ^ 31 := by
  have h1 : (x &&& 2147483648) / 2 ^ 31 = x / 2 ^ 31 % 2 := by
    rw [Nat.and_div_two_pow]; exact Nat.and_two_pow_sub_one_eq_mod _ 1
  have h2 : (x &&& 2147483648) % 2 ^ 31 = 0 := by
    rw [Nat.and_mod_two_pow]; exact Nat.and_zero _
  have := Nat.div_add_mod (x &&& 2147483648) (2 ^ 31)
  rw [h1, h2] at this
  omega
theorem and_top32 (x : Nat) (hx : x < 2 ^ 32) : bits .and .i64 (x : Int) 2147483648 = ((Ieee.single.word (sgn Ieee.single x) 0 : Nat) : Int) := by
  have h := i64_and_nat x 2147483648 (by omega) (by decide)
  rw [show ((2147483648 : Nat) : Int) = 2147483648 from rfl] at h
  rw [h, top32 x hx]
  unfold sgn Ieee.Format.word
  rw [sw32]
  have : x / 2 ^ 31 = 0 ∨ x / 2 ^ 31 = 1 := by omega
  rcases this with e | e <;> rw [e] <;> rfl
theorem and_top64 (x : Nat) (hx : x < 2 ^ 64) : x &&& 9223372036854775808 = Ieee.double.word (sgn Ieee.double x) 0 := by
  have h1 : (x &&& 9223372036854775808) / 2 ^ 63 = x / 2 ^ 63 % 2 := by
    rw [Nat.and_div_two_pow]; exact Nat.and_two_pow_sub_one_eq_mod _ 1
  have h2 : (x &&& 9223372036854775808) % 2 ^ 63 = 0 := by
    rw [Nat.and_mod_two_pow]; exact Nat.and_zero _
  have h3 := Nat.div_add_mod (x &&& 9223372036854775808) (2 ^ 63)
  rw [h1, h2] at h3
  unfold sgn Ieee.Format.word
  rw [sw64]
  have : x / 2 ^ 63 = 0 ∨ x / 2 ^ 63 = 1 := by omega
  rcases this with e | e <;> rw [e] at h3 ⊢ <;> simp at h3 ⊢ <;> omega
def flushS (x : Nat) : Nat := if rung Ieee.single x < 8388608 then Ieee.single.word (sgn Ieee.single x) 0 else x
end Go.Proofs.Ytlabbakmlanfgaa.Flo
