/- Tenths of decibels of 64ths: the words are exact. No condition. -/
import Derived.Test.YtlabbakmlanfgaaKpw
import Derived.Test.YtlabbakmlanfgaaWten
namespace Go.Proofs.Ytlabbakmlanfgaa
open Go.RowKit Flo Iee Kf Ieee
set_option linter.unusedVariables false
set_option linter.unusedSimpArgs false
namespace TryWalk
/-- The word of n * 2^(s - 149). -/
def W32 (s n : Nat) : Nat := rg Ieee.single (n * 2 ^ s)
theorem w32_ok {s n : Nat} (hs : s ≤ 146) (h0 : 1 ≤ n) (hn : n < 2 ^ 24) : W32 s n < 2139095040 ∧ 1 ≤ W32 s n ∧ mv Ieee.single (W32 s n) = n * 2 ^ s := by
  have hm : mv Ieee.single (W32 s n) = n * 2 ^ s := mv_rg Ieee.single _ n s rfl hn
  have hle : n * 2 ^ s ≤ 2 ^ (Ieee.single.fractionBits + 147) := by
    rw [show Ieee.single.fractionBits + 147 = 24 + 146 from rfl, Nat.pow_add]
    exact Nat.mul_le_mul (Nat.le_of_lt hn) (Nat.pow_le_pow_right (by decide) hs)
  have h1 := rg_le _ _ _ hle
  refine ⟨?_, ?_, hm⟩
  · rw [bin32] at h1
    unfold W32
    omega
  · rcases Nat.eq_zero_or_pos (W32 s n) with h | h
    · exfalso
      rw [h, mv_zero] at hm
      have := Nat.mul_pos h0 (Nat.two_pow_pos s)
      omega
    · exact h
theorem w32_word {x : Nat} (h : x < 2139095040) : FinW Ieee.single x ∧ rung Ieee.single x = x ∧ sgn Ieee.single x = false ∧ Fits .f32 x := by
  have hsw : Ieee.single.signWeight = 2147483648 := sw32
  have hinf : Ieee.single.infRung = 2139095040 := by rw [inf32]
  have hr : rung Ieee.single x = x := by unfold rung; rw [hsw]; exact Nat.mod_eq_of_lt (by omega)
  refine ⟨by unfold FinW; rw [hr, hinf]; exact h, hr, by unfold sgn; rw [hsw, Nat.div_eq_of_lt (by omega)]; rfl, ?_⟩
  have : FloatKind.f32.format.signWeight = Ieee.single.signWeight := rfl
  unfold Fits; rw [this, hsw]; omega
theorem pow_three (m k : Nat) : m * 2 ^ (3 + k) = 8 * m * 2 ^ k := by
  rw [Nat.pow_add, ← Nat.mul_assoc, Nat.mul_comm m (2 ^ 3)]
theorem w32_3 (m k : Nat) : W32 (3 + k) m = W32 k (8 * m) := by
  unfold W32
  rw [pow_three]
theorem w32_8 (m : Nat) : W32 146 m = W32 143 (8 * m) := w32_3 m 143
theorem pow_prod (m n a b c : Nat) (h : a + a = b + c) : m * 2 ^ a * (n * 2 ^ a) = (m * n * 2 ^ b) * 2 ^ c := by
  rw [Nat.mul_mul_mul_comm, Nat.mul_assoc (m * n), ← Nat.pow_add, ← Nat.pow_add, h]
theorem word_f (f : Format) (r : Nat) : f.word false r = r := by
  unfold Format.word
  rw [if_neg (by decide)]
theorem mul_w {x y V : Nat} (c : Nat) (hx : FinW Ieee.single x) (hy : FinW Ieee.single y) (sx : sgn Ieee.single x = false) (sy : sgn Ieee.single y = false) (hc : Ieee.single.leastPlace + Ieee.single.leastPlace + (c : Int) = Ieee.single.leastPlace)
    (hV : mv Ieee.single (rung Ieee.single x) * mv Ieee.single (rung Ieee.single y) = V * 2 ^ c) (hr : rg Ieee.single V < Ieee.single.infRung) : fop .mul .f32 x y = rg Ieee.single V := by
  have e : FloatKind.f32.format.mul x y = some (rg Ieee.single V) := by
    have h := mul_fin hx hy
    rw [sx, sy, hV, near_shift, hc, near_lp, Nat.min_eq_left (Nat.le_of_lt hr), Bool.false_xor, word_f] at h
    exact h
  unfold fop floatBits
  simp only
  rw [e]
  rfl
theorem w32_mul {m n : Nat} (hm0 : 1 ≤ m) (hm : m ≤ 200) (hn0 : 1 ≤ n) (hn : n ≤ 200) : fop .mul .f32 (W32 146 m) (W32 146 n) = W32 143 (m * n) := by
  have hmn : m * n < 2 ^ 24 := Nat.lt_of_le_of_lt (Nat.mul_le_mul hm hn) (by decide)
  obtain ⟨a1, a2, a3⟩ := w32_ok (s := 146) (by omega) hm0 (by omega : m < 2 ^ 24)
  obtain ⟨b1, b2, b3⟩ := w32_ok (s := 146) (by omega) hn0 (by omega : n < 2 ^ 24)
  obtain ⟨c1, c2, c3⟩ := w32_ok (s := 143) (by omega) (Nat.mul_pos hm0 hn0) hmn
  obtain ⟨x1, x2, x3, -⟩ := w32_word a1
  obtain ⟨y1, y2, y3, -⟩ := w32_word b1
  have hinf : Ieee.single.infRung = 2139095040 := by rw [inf32]
  refine mul_w 149 x1 y1 x3 y3 (by rw [lp32]; rfl) ?_ (by rw [hinf]; exact c1)
  rw [x2, y2, a3, b3]
  exact pow_prod m n 146 143 149 rfl
def e68 : Nat := 1068
/-- The great kind's word of n / 64. -/
def D64 (n : Nat) : Nat := rg Ieee.double (n * 2 ^ e68)
theorem d64_ok {n : Nat} (hn : n < 2 ^ 24) : mv Ieee.double (D64 n) = n * 2 ^ e68 ∧ D64 n < Ieee.double.infRung := by
  refine ⟨mv_rg Ieee.double _ n e68 rfl (Nat.lt_trans hn (by decide)), ?_⟩
  have hle : n * 2 ^ e68 ≤ 2 ^ (Ieee.double.fractionBits + 1040) := by
    rw [show Ieee.double.fractionBits + 1040 = 24 + e68 from rfl, Nat.pow_add]
    exact Nat.mul_le_mul_right _ (Nat.le_of_lt hn)
  have h1 := rg_le _ _ _ hle
  unfold D64
  rw [inf64]
  rw [bin64] at h1
  omega
theorem d64_up {n : Nat} (h0 : 1 ≤ n) (hn : n < 2 ^ 24) : fconv .f32 (W32 143 n) .f64 = D64 n := by
  obtain ⟨a1, a2, a3⟩ := w32_ok (s := 143) (by omega) h0 hn
  obtain ⟨x1, x2, x3, x4⟩ := w32_word a1
  obtain ⟨g1, g2, g3, g4⟩ := fconv_up x1
  obtain ⟨d1, d2⟩ := d64_ok hn
  have hfit : fconv .f32 (W32 143 n) .f64 < 2 * Ieee.double.signWeight := fits_fconv (k := .f64) x4
  have he := word_eta Ieee.double _ hfit
  have hr : rung Ieee.double (fconv .f32 (W32 143 n) .f64) = D64 n := by
    apply mv_inj Ieee.double
    rw [g4, x2, a3, d1, Nat.mul_assoc, ← Nat.pow_add, show 143 + sh = e68 from rfl]
  rw [g3, x3, hr] at he
  rw [← he, word_f]
def kD (n : Nat) : Nat := nearK 52 4503599627370496 2926 n 3994
theorem kD_eq {n : Nat} (hn : n < 2 ^ 24) : D64 n = kD n := by
  obtain ⟨-, d2⟩ := d64_ok hn
  have h1 := nearK_eq Ieee.double false n 3994 2926 (by rw [lp64]; rfl)
  have h2 := near_V Ieee.double false n e68
  have hp : Ieee.double.leastPlace + (e68 : Int) = ((3994 : Nat) : Int) - 4000 := by rw [lp64]; rfl
  have hb : Ieee.double.binade = 4503599627370496 := by decide +kernel
  have hf : Ieee.double.fractionBits = 52 := by decide +kernel
  rw [hb, hf] at h1
  rw [hp, h1, word_f, word_f] at h2
  unfold D64 kD
  unfold D64 at d2
  generalize nearK 52 4503599627370496 2926 n 3994 = K at *
  generalize rg Ieee.double (n * 2 ^ e68) = R at *
  generalize Ieee.double.infRung = I at *
  omega

/-! ### the whole part below -/
def TI (v : Nat) : Int := if sgn Ieee.double v then -((floorN v : Nat) : Int) else ((floorN v : Nat) : Int)
theorem floor_TI {v : Nat} (hb : Bd 1038 v) : toI (floorF v) = TI v := by
  have hN := floorN_le hb
  have hN2 : floorN v < 2 ^ 52 := by omega
  have hmv : mv Ieee.double (rg Ieee.double (floorN v * 2 ^ un)) = floorN v * 2 ^ un := mv_rg Ieee.double _ (floorN v) un rfl (Nat.lt_trans hN2 (by decide))
  have hle : rg Ieee.double (floorN v * 2 ^ un) ≤ (1074 + 1) * Ieee.double.binade := by
    apply rg_le
    have e : 2 ^ (Ieee.double.fractionBits + 1074) = 2 ^ 52 * 2 ^ un := by rw [← Nat.pow_add, show Ieee.double.fractionBits + 1074 = 52 + un from rfl]
    rw [e]
    exact Nat.mul_le_mul_right _ (Nat.le_of_lt hN2)
  unfold floorF
  have hp : (0 : Int) = Ieee.double.leastPlace + (un : Int) := by rw [lp64, un_eq]; rfl
  rw [hp, near_V]
  generalize hR : rg Ieee.double (floorN v * 2 ^ un) = R at *
  have hRi : R < Ieee.double.infRung := by rw [inf64]; rw [bin64] at hle; omega
  have hRs : R < Ieee.double.signWeight := by rw [sw64]; rw [inf64] at hRi; omega
  rw [Nat.min_eq_left (by omega)]
  unfold toI TI
  rw [rung_word _ _ hRs, sgn_word _ _ hRs, hmv, Nat.mul_div_cancel _ (Nat.two_pow_pos un)]
theorem ten_val {n : Nat} (h0 : 1 ≤ n) (hn : n < 2 ^ 24) : Pos (W32 143 n) ∧ Fits .f32 (W32 143 n) ∧ tenI (W32 143 n) = TI (tenV (kD n)) := by
  obtain ⟨a1, a2, a3⟩ := w32_ok (s := 143) (by omega) h0 hn
  have hp := pos_of a2 a1
  refine ⟨hp, (w32_word a1).2.2.2, ?_⟩
  have hbd := (tenV_bd hp.lo hp.hi).2
  unfold tenI
  rw [floor_TI hbd, d64_up h0 hn, kD_eq hn]
end TryWalk
end Go.Proofs.Ytlabbakmlanfgaa
