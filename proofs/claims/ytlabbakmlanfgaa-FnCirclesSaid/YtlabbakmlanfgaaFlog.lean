/- Floats: exact halving and doubling, counting, and the logarithm that both ways compute. No condition. -/
import Derived.Test.YtlabbakmlanfgaaFbd
namespace Go.Proofs.Ytlabbakmlanfgaa.Flo
open Go Go.RowKit Iee Ieee
set_option linter.unusedVariables false

/-! ### positive words -/
theorem pos_word {b : Nat} (h : b < 9218868437227405312) : FinW Ieee.double b ∧ rung Ieee.double b = b ∧ sgn Ieee.double b = false ∧ sv Ieee.double b = mv Ieee.double b ∧ Fits .f64 b := by
  have hi : Ieee.double.infRung = 9218868437227405312 := by decide +kernel
  have hs : Ieee.double.signWeight = 9223372036854775808 := by decide +kernel
  have hr : rung Ieee.double b = b := by unfold rung; rw [hs]; exact Nat.mod_eq_of_lt (by omega)
  have hg : sgn Ieee.double b = false := by
    unfold sgn; rw [hs, Nat.div_eq_of_lt (by omega)]; rfl
  refine ⟨by unfold FinW; rw [hr, hi]; exact h, hr, hg, by unfold sv; rw [hg, hr]; rfl, ?_⟩
  have : FloatKind.f64.format.signWeight = Ieee.double.signWeight := rfl
  unfold Fits; rw [this, hs]; omega
theorem pos_ge {b c : Nat} (h : b < 9218868437227405312) (g : c < 9218868437227405312) : (FloatKind.f64.format.order b c == some .gt || FloatKind.f64.format.order b c == some .eq) = decide (c ≤ b) := by
  have hb := pos_word h
  have hc := pos_word g
  rw [ge_fin (k := .f64) hb.1 hc.1]
  have e1 : sv FloatKind.f64.format b = mv Ieee.double b := hb.2.2.2.1
  have e2 : sv FloatKind.f64.format c = mv Ieee.double c := hc.2.2.2.1
  rw [e1, e2, Bool.eq_iff_iff, decide_eq_true_eq, decide_eq_true_eq]
  rw [Int.ofNat_le]; exact mv_le_iff Ieee.double c b
theorem pos_lt {b c : Nat} (h : b < 9218868437227405312) (g : c < 9218868437227405312) : (FloatKind.f64.format.order b c == some .lt) = decide (b < c) := by
  have hb := pos_word h
  have hc := pos_word g
  rw [lt_fin (k := .f64) hb.1 hc.1]
  have e1 : sv FloatKind.f64.format b = mv Ieee.double b := hb.2.2.2.1
  have e2 : sv FloatKind.f64.format c = mv Ieee.double c := hc.2.2.2.1
  rw [e1, e2, Bool.eq_iff_iff, decide_eq_true_eq, decide_eq_true_eq]
  rw [Int.ofNat_lt]; exact mv_lt_iff Ieee.double b c
theorem pos_gt {b c : Nat} (h : b < 9218868437227405312) (g : c < 9218868437227405312) : (FloatKind.f64.format.order b c == some .gt) = decide (c < b) := by
  have hb := pos_word h
  have hc := pos_word g
  rw [gt_fin (k := .f64) hb.1 hc.1]
  have e1 : sv FloatKind.f64.format b = mv Ieee.double b := hb.2.2.2.1
  have e2 : sv FloatKind.f64.format c = mv Ieee.double c := hc.2.2.2.1
  rw [e1, e2, Bool.eq_iff_iff, decide_eq_true_eq, decide_eq_true_eq]
  rw [Int.ofNat_lt]; exact mv_lt_iff Ieee.double c b

/-! ### halving and doubling -/
abbrev two : Nat := 4611686018427387904
def BB : Nat := 4503599627370496
theorem BB_eq : Ieee.double.binade = BB := by decide +kernel
theorem mg_big {b : Nat} (h : BB ≤ b) : mg Ieee.double b = BB + b % BB ∧ ex Ieee.double b = b / BB - 1 := by
  unfold mg ex; rw [BB_eq, if_neg (by omega), if_neg (by omega)]; exact ⟨rfl, rfl⟩
theorem mgB {b : Nat} (h : 4503599627370496 ≤ b) : mg Ieee.double b = 4503599627370496 + b % 4503599627370496 ∧ ex Ieee.double b = b / 4503599627370496 - 1 := mg_big h
theorem two_parts : mg Ieee.double two = 2 ^ 52 ∧ ex Ieee.double two = 1023 := by decide +kernel
theorem log2_52 : (2 ^ 52).log2 = 52 := by decide +kernel
theorem quot_half (m : Nat) (i j : Int) (hm : m.log2 = 52) : (Datum.number false m i).quotient 54 (.number false (2 ^ 52) j) = some (.number false (m * 2 ^ 3) (i - j - 54 - 1)) := by
  unfold Datum.quotient
  simp only [log2_52, hm]
  rw [if_neg (by decide)]
  have e1 : (m <<< (54 + 52 - 52)) / 2 ^ 52 = m * 4 := by rw [Nat.shiftLeft_eq]; omega
  have e2 : (m <<< (54 + 52 - 52)) % 2 ^ 52 = 0 := by rw [Nat.shiftLeft_eq]; omega
  rw [e1, e2]
  have e3 : 2 * (m * 4) + (0 != 0 : Bool).toNat = m * 2 ^ 3 := by simp; omega
  rw [e3]
  rfl
theorem half_mv {b : Nat} (h1 : 9007199254740992 ≤ b) : mg Ieee.double b * 2 ^ (ex Ieee.double b - 1) = mv Ieee.double (b - 4503599627370496) := by
  obtain ⟨m1, m2⟩ := mgB (b := b) (by omega)
  obtain ⟨k1, k2⟩ := mgB (b := b - 4503599627370496) (by omega)
  unfold mv
  have e1 : (b - 4503599627370496) % 4503599627370496 = b % 4503599627370496 := by omega
  have e2 : (b - 4503599627370496) / 4503599627370496 = b / 4503599627370496 - 1 := by omega
  rw [m1, m2, k1, k2, e1, e2]
theorem div_two {b : Nat} (h1 : 9007199254740992 ≤ b) (h2 : b < 9218868437227405312) : fop .quo .f64 b two = Ieee.double.nearest false (mg Ieee.double b * 2 ^ 3) (Ieee.double.leastPlace + (ex Ieee.double b : Int) - (Ieee.double.leastPlace + (1023 : Nat)) - 54 - 1) := by
  have hb := pos_word h2
  have ht := pos_word (b := two) (by decide)
  obtain ⟨m1, -⟩ := mgB (b := b) (by omega)
  have hm52 : (mg Ieee.double b).log2 = 52 := by
    rw [m1, Nat.log2_eq_iff (by omega)]; omega
  have e : FloatKind.f64.format.div b two = some (Ieee.double.write (.number false (mg Ieee.double b * 2 ^ 3) (Ieee.double.leastPlace + (ex Ieee.double b : Int) - (Ieee.double.leastPlace + (1023 : Nat)) - 54 - 1))) := by
    show Ieee.double.div b two = _
    unfold Format.div
    rw [read_fin hb.1, read_fin ht.1, hb.2.1, ht.2.1, hb.2.2.1, ht.2.2.1, two_parts.1, two_parts.2, show Ieee.double.fractionBits + 2 = 54 from rfl, quot_half _ _ _ hm52]
    rfl
  simp only [fop, floatBits, e, Option.getD_some]
  rfl
theorem half_exact {b : Nat} (h1 : 9007199254740992 ≤ b) (h2 : b < 9218868437227405312) : fop .quo .f64 b two = b - 4503599627370496 := by
  rw [div_two h1 h2, near_shift]
  obtain ⟨-, m2⟩ := mgB (b := b) (by omega)
  have hge : 1 ≤ ex Ieee.double b := by rw [m2]; omega
  have hpl : Ieee.double.leastPlace + (ex Ieee.double b : Int) - (Ieee.double.leastPlace + (1023 : Nat)) - 54 - 1 + ((3 : Nat) : Int) = Ieee.double.leastPlace + ((ex Ieee.double b - 1 : Nat) : Int) := by
    rw [lp64]; omega
  rw [hpl, near_V, half_mv h1, rg_mv]
  have hi : Ieee.double.infRung = 9218868437227405312 := by decide +kernel
  rw [hi, Nat.min_eq_left (by omega)]
  unfold Format.word
  rw [if_neg (by decide)]
theorem two_mv : mv Ieee.double two = 2 * 2 ^ un := by
  have e : two = (1023 + 1) * Ieee.double.binade := by decide +kernel
  have : mv Ieee.double two = 2 ^ (Ieee.double.fractionBits + 1023) := by rw [e, mv_pow]
  rw [this, show Ieee.double.fractionBits + 1023 = un + 1 from rfl, Nat.pow_succ, Nat.mul_comm]
theorem dbl_mv {b : Nat} (h1 : 4503599627370496 ≤ b) : mv Ieee.double b * 2 = mv Ieee.double (b + 4503599627370496) := by
  obtain ⟨m1, m2⟩ := mgB (b := b) h1
  obtain ⟨k1, k2⟩ := mgB (b := b + 4503599627370496) (by omega)
  unfold mv
  have e1 : (b + 4503599627370496) % 4503599627370496 = b % 4503599627370496 := by omega
  have e2 : (b + 4503599627370496) / 4503599627370496 - 1 = b / 4503599627370496 - 1 + 1 := by omega
  rw [m1, m2, k1, k2, e1, e2, Nat.pow_succ, Nat.mul_assoc]
theorem mul_g1 {x y V : Nat} (hx : FinW Ieee.double x) (hy : FinW Ieee.double y) (sx : sgn Ieee.double x = false) (sy : sgn Ieee.double y = false) (hv : mv Ieee.double (rung Ieee.double x) * mv Ieee.double (rung Ieee.double y) = V * 2 ^ un) :
   Ieee.double.mul x y = some (Ieee.double.nearest false (V * 2 ^ un) (Ieee.double.leastPlace + Ieee.double.leastPlace)) := by
  rw [mul_fin hx hy, sx, sy, hv, Bool.false_xor]
theorem mul_g2 {x y V : Nat} (hx : FinW Ieee.double x) (hy : FinW Ieee.double y) (sx : sgn Ieee.double x = false) (sy : sgn Ieee.double y = false) (hv : mv Ieee.double (rung Ieee.double x) * mv Ieee.double (rung Ieee.double y) = V * 2 ^ un) :
   Ieee.double.mul x y = some (Ieee.double.nearest false V Ieee.double.leastPlace) := by
  have hpl : Ieee.double.leastPlace + Ieee.double.leastPlace + (un : Int) = Ieee.double.leastPlace := by rw [lp64, un_eq]; omega
  rw [mul_g1 hx hy sx sy hv, near_shift, hpl]
theorem fop_of_mul {x y w : Nat} (e : Ieee.double.mul x y = some w) : fop .mul .f64 x y = w := by
  have e' : FloatKind.f64.format.mul x y = some w := e
  simp only [fop, floatBits, e', Option.getD_some]
theorem mul_g3 {x y V : Nat} (e : Ieee.double.mul x y = some (Ieee.double.nearest false V (Ieee.double.leastPlace))) : fop .mul .f64 x y = Ieee.double.word false (min (rg Ieee.double V) Ieee.double.infRung) :=
  fop_of_mul (by rw [e, near_lp])
theorem two_pos : FinW Ieee.double two ∧ rung Ieee.double two = two ∧ sgn Ieee.double two = false := by
  have h := pos_word (b := two) (by decide)
  exact ⟨h.1, h.2.1, h.2.2.1⟩
theorem dbl_exact {b : Nat} (h1 : 4503599627370496 ≤ b) (h2 : b < 9214364837600034816) : fop .mul .f64 b two = b + 4503599627370496 := by
  have hb := pos_word (b := b) (by omega)
  have hv : mv Ieee.double (rung Ieee.double b) * mv Ieee.double (rung Ieee.double two) = mv Ieee.double (b + 4503599627370496) * 2 ^ un := by
    rw [hb.2.1, two_pos.2.1, two_mv, ← dbl_mv h1, Nat.mul_assoc]
  rw [mul_g3 (mul_g2 hb.1 two_pos.1 hb.2.2.1 two_pos.2.2 hv), rg_mv]
  have hi : Ieee.double.infRung = 9218868437227405312 := by decide +kernel
  rw [hi, Nat.min_eq_left (by omega)]
  unfold Format.word
  rw [if_neg (by decide)]

/-! ### counting -/
theorem count_up : ∀ j : Nat, j < 200 → fop .add .f64 (floatOfInt .f64 (j : Int)) one = floatOfInt .f64 ((j : Int) + 1) := by decide +kernel
theorem count_down : ∀ j : Nat, j < 200 → fop .sub .f64 (floatOfInt .f64 (-(j : Int))) one = floatOfInt .f64 (-(j : Int) - 1) := by decide +kernel
theorem up1 {n : Int} (h0 : 0 ≤ n) (h1 : n < 200) : fop .add .f64 (floatOfInt .f64 n) one = floatOfInt .f64 (n + 1) := by
  obtain ⟨j, rfl⟩ := Int.eq_ofNat_of_zero_le h0
  exact count_up j (by omega)
theorem down1 {n : Int} (h0 : n ≤ 0) (h1 : -200 < n) : fop .sub .f64 (floatOfInt .f64 n) one = floatOfInt .f64 (n - 1) := by
  obtain ⟨j, hj⟩ : ∃ j : Nat, n = -(j : Int) := ⟨(-n).toNat, by omega⟩
  rw [hj]
  exact count_down j (by omega)

/-! ### the logarithm -/
abbrev T15 : Nat := 4609434218613702656
abbrev T075 : Nat := 4604930618986332160
/-- How often it is halved (doubled, if less than zero). -/
def lE (y : Nat) : Int := ((y : Int) - T075) / BB
def lB (y : Nat) : Nat := ((y : Int) - lE y * BB).toNat
theorem lE_of {y b : Nat} {E : Int} (h : (b : Int) = (y : Int) - E * BB) (h1 : T075 ≤ b) (h2 : b < T15) : E = lE y ∧ b = lB y := by
  have hBB : (BB : Int) = 4503599627370496 := rfl
  have e1 : ((T075 : Nat) : Int) = 4604930618986332160 := rfl
  have : E = lE y := by
    unfold lE
    rw [hBB] at h ⊢
    rw [e1]
    have e2 : T15 = 4609434218613702656 := rfl
    have e3 : T075 = 4604930618986332160 := rfl
    rw [e2] at h2
    rw [e3] at h1
    omega
  refine ⟨this, ?_⟩
  unfold lB
  rw [← this, ← h]; rfl
def s_ (b : Nat) : Nat := fop .quo .f64 (fop .sub .f64 b one) (fop .add .f64 b one)
/-- 25, 23, .. as floats. -/
def lk : Nat → Nat
  | 0 => 4627730092099895296
  | i + 1 => fop .sub .f64 (lk i) two
def lq (u : Nat) : Nat → Nat
  | 0 => 0
  | i + 1 => fop .add .f64 (fop .quo .f64 one (lk i)) (fop .mul .f64 u (lq u i))
abbrev ln2 : Nat := 4604418534313441775
def logF (y : Nat) : Nat := fop .add .f64 (fop .mul .f64 two (fop .mul .f64 (s_ (lB y)) (lq (fop .mul .f64 (s_ (lB y)) (s_ (lB y))) 13))) (fop .mul .f64 (floatOfInt .f64 (lE y)) ln2)
theorem lk_ge : ∀ i, i < 13 → (FloatKind.f64.format.order (lk i) one == some .gt || FloatKind.f64.format.order (lk i) one == some .eq) = true := by decide +kernel
theorem lk_end : (FloatKind.f64.format.order (lk 13) one == some .gt || FloatKind.f64.format.order (lk 13) one == some .eq) = false := by decide +kernel
theorem lk_nan : ∀ i, i < 14 → NaN .f64 (lk i) = false := by decide +kernel
theorem lk_int : ∀ i : Nat, i < 13 → floatOfInt .f64 (25 - 2 * (i : Int)) = lk i := by decide +kernel
/-- A measure of the float counter: 27 - k, counted. -/
theorem lk_inj : ∀ i, i < 14 → ∀ j, j < 14 → lk i = lk j → i = j := by decide +kernel
theorem lk_bd : ∀ i, i < 13 → bdB 1022 (fop .quo .f64 one (lk i)) = true := by decide +kernel

/-! ### how great it is -/
theorem lB_bd {b : Nat} (h1 : T075 ≤ b) (h2 : b < T15) : Bd 1021 (s_ b) := by
  have hb := pos_word (b := b) (by have : T15 = 4609434218613702656 := rfl; omega)
  have ho := pos_word (b := one) (by decide)
  have m1 : mv Ieee.double T075 ≤ mv Ieee.double b := (mv_le_iff _ _ _).2 h1
  have m2 : mv Ieee.double b < mv Ieee.double T15 := (mv_lt_iff _ _ _).2 h2
  have e1 : mv Ieee.double T075 = 3 * 2 ^ (un - 2) := by decide +kernel
  have e2 : mv Ieee.double T15 = 6 * 2 ^ (un - 2) := by decide +kernel
  have e3 : mv Ieee.double one = 4 * 2 ^ (un - 2) := by decide +kernel
  have e4 : 2 ^ un = 4 * 2 ^ (un - 2) := by decide +kernel
  have hnum : Bd 1021 (fop .sub .f64 b one) := by
    rw [fop_sub64 hb.1 ho.1]
    refine bd_word _ _ _ ?_ (by omega)
    refine Nat.le_trans (Nat.min_le_left _ _) (rg_le _ _ _ ?_)
    rw [hb.2.2.2.1, ho.2.2.2.1, e3]
    have e5 : 2 ^ (Ieee.double.fractionBits + 1021) = 2 * 2 ^ (un - 2) := by decide +kernel
    rw [e5]
    rw [e1] at m1
    rw [e2] at m2
    clear e1 e2 e3 e4 e5
    generalize 2 ^ (un - 2) = U at *
    omega
  have hsum : sv Ieee.double b + sv Ieee.double one = ((mv Ieee.double b + mv Ieee.double one : Nat) : Int) := by
    rw [hb.2.2.2.1, ho.2.2.2.1]; rfl
  have hrg : rg Ieee.double (mv Ieee.double b + mv Ieee.double one) ≤ (1024 + 1) * Ieee.double.binade := by
    apply rg_le
    have e5 : 2 ^ (Ieee.double.fractionBits + 1024) = 16 * 2 ^ (un - 2) := by decide +kernel
    rw [e5]
    rw [e1] at m1
    rw [e2] at m2
    rw [e3]
    clear e1 e2 e3 e4 e5 hsum
    generalize 2 ^ (un - 2) = U at *
    omega
  have hrg2 : (1022 + 1) * Ieee.double.binade ≤ rg Ieee.double (mv Ieee.double b + mv Ieee.double one) := by
    apply rg_ge
    rw [show Ieee.double.fractionBits + 1022 = un from rfl, e4, e3]
    omega
  have hden : fop .add .f64 b one = Ieee.double.word false (rg Ieee.double (mv Ieee.double b + mv Ieee.double one)) := by
    rw [fop_add64 hb.1 ho.1, hsum, Int.natAbs_natCast]
    have hz : ¬ ((mv Ieee.double b + mv Ieee.double one : Nat) : Int) = 0 := by
      rw [e3]
      have := Nat.two_pow_pos (un - 2)
      omega
    rw [if_neg hz]
    have hneg : decide (((mv Ieee.double b + mv Ieee.double one : Nat) : Int) < 0) = false := by simp; omega
    rw [hneg, Nat.min_eq_left]
    rw [inf64]; rw [bin64] at hrg; omega
  have hri : rg Ieee.double (mv Ieee.double b + mv Ieee.double one) < Ieee.double.infRung := by rw [inf64]; rw [bin64] at hrg; omega
  have hrs : rg Ieee.double (mv Ieee.double b + mv Ieee.double one) < Ieee.double.signWeight := by rw [sw64]; rw [inf64] at hri; omega
  unfold s_
  rw [hden]
  refine bd_div hnum ?_ ?_ (by omega)
  · unfold FinW; rw [rung_word _ _ hrs]; exact hri
  · rw [rung_word _ _ hrs]
    have := (mv_le_iff Ieee.double _ _).2 hrg2
    rw [mv_pow, show Ieee.double.fractionBits + 1022 = un from rfl] at this
    exact this
theorem lq_bd {u : Nat} (h : Bd 1020 u) : ∀ i, i ≤ 13 → Bd 1023 (lq u i) := by
  intro i
  induction i with
  | zero => intro _; show Bd 1023 0; exact bd_lit (by decide +kernel)
  | succ i ih =>
    intro hi
    have h1 : Bd 1021 (fop .mul .f64 u (lq u i)) := bd_mul h (ih (by omega)) (by omega) (by omega)
    exact (bd_sum (bd_lit (lk_bd i (by omega))) (h1.mono (by omega)) (by omega)).1
theorem log_bd {y : Nat} (h1 : T075 ≤ lB y) (h2 : lB y < T15) (h3 : -256 ≤ lE y) (h4 : lE y ≤ 256) : Bd 1031 (logF y) := by
  have hs := lB_bd h1 h2
  have hu : Bd 1020 (fop .mul .f64 (s_ (lB y)) (s_ (lB y))) := bd_mul hs hs (by omega) (by omega)
  have hq := lq_bd hu 13 (by omega)
  have h5 : Bd 1022 (fop .mul .f64 (s_ (lB y)) (lq (fop .mul .f64 (s_ (lB y)) (s_ (lB y))) 13)) := bd_mul hs hq (by omega) (by omega)
  have htwo : Bd 1023 two := bd_lit (by decide +kernel)
  have h6 := bd_mul (c := 1023) htwo h5 (by omega) (by omega)
  have hE : Bd 1030 (floatOfInt .f64 (lE y)) := by
    obtain ⟨k1, k2, k3, k4⟩ := ofI (lE y) (by omega)
    refine ⟨k1, ?_⟩
    have := natAbs_sv Ieee.double (floatOfInt .f64 (lE y))
    rw [← this, k2]
    have e5 : 2 ^ (Ieee.double.fractionBits + 1030) = 256 * 2 ^ un := by decide +kernel
    rw [e5, Int.natAbs_mul, Int.natAbs_natCast]
    exact Nat.mul_le_mul_right _ (by omega)
  have hl : Bd 1022 ln2 := bd_lit (by decide +kernel)
  have h7 := bd_mul (c := 1030) hE hl (by omega) (by omega)
  exact (bd_sum (h6.mono (by omega)) h7 (by omega)).1
end Go.Proofs.Ytlabbakmlanfgaa.Flo
