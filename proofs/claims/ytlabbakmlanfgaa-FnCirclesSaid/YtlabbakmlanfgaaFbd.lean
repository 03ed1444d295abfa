/- Floats of the great kind: comparisons of finite numbers, how great results are, conversion to and from integers, conversion to the small kind. No condition. -/
import Derived.Test.YtlabbakmlanfgaaFlc
namespace Go.Proofs.Ytlabbakmlanfgaa.Flo
open Go Go.RowKit Iee Ieee
set_option linter.unusedVariables false

/-! ### comparisons of finite numbers -/
theorem lt_fin {k : FloatKind} {x y : Nat} (hx : FinW k.format x) (hy : FinW k.format y) : (k.format.order x y == some .lt) = decide (sv k.format x < sv k.format y) := by
  rw [order_fin hx hy, cmp_int]
  by_cases h : sv k.format x < sv k.format y
  · simp [h]
  · rw [if_neg h]; split <;> simp [h]
theorem eq_fin {k : FloatKind} {x y : Nat} (hx : FinW k.format x) (hy : FinW k.format y) : (k.format.order x y == some .eq) = decide (sv k.format x = sv k.format y) := by
  rw [order_fin hx hy, cmp_int]
  by_cases h : sv k.format x < sv k.format y
  · have : ¬ sv k.format x = sv k.format y := by omega
    simp [h, this]
  · rw [if_neg h]; split <;> simp_all
theorem gt_fin {k : FloatKind} {x y : Nat} (hx : FinW k.format x) (hy : FinW k.format y) : (k.format.order x y == some .gt) = decide (sv k.format y < sv k.format x) := by
  rw [order_fin hx hy, cmp_int]
  by_cases h : sv k.format x < sv k.format y
  · have : ¬ sv k.format y < sv k.format x := by omega
    simp [h, this]
  · rw [if_neg h]
    by_cases h2 : sv k.format x = sv k.format y
    · simp [h2]
    · have : sv k.format y < sv k.format x := by omega
      simp [h2, this]
theorem ge_fin {k : FloatKind} {x y : Nat} (hx : FinW k.format x) (hy : FinW k.format y) : (k.format.order x y == some .gt || k.format.order x y == some .eq) = decide (sv k.format y ≤ sv k.format x) := by
  rw [gt_fin hx hy, eq_fin hx hy, Bool.eq_iff_iff]
  simp only [Bool.or_eq_true, decide_eq_true_eq]; omega
theorem le_fin {k : FloatKind} {x y : Nat} (hx : FinW k.format x) (hy : FinW k.format y) : (k.format.order x y == some .lt || k.format.order x y == some .eq) = decide (sv k.format x ≤ sv k.format y) := by
  rw [lt_fin hx hy, eq_fin hx hy, Bool.eq_iff_iff]
  simp only [Bool.or_eq_true, decide_eq_true_eq]; omega

/-- The place of one: 1074 places above the least. -/
def un : Nat := 1074
theorem un_eq : un = 1074 := rfl
theorem fop_add_fin {k : FloatKind} {x y : Nat} (hx : FinW k.format x) (hy : FinW k.format y) : fop .add k x y =
    k.format.word (if sv k.format x + sv k.format y = 0 then sgn k.format x && sgn k.format y else decide (sv k.format x + sv k.format y < 0)) (min (rg k.format (sv k.format x + sv k.format y).natAbs) k.format.infRung) := by
  simp only [fop, floatBits, add_fin hx hy, Option.getD_some]
theorem fop_sub_fin {k : FloatKind} {x y : Nat} (hx : FinW k.format x) (hy : FinW k.format y) : fop .sub k x y =
    k.format.word (if sv k.format x - sv k.format y = 0 then sgn k.format x && !sgn k.format y else decide (sv k.format x - sv k.format y < 0)) (min (rg k.format (sv k.format x - sv k.format y).natAbs) k.format.infRung) := by
  simp only [fop, floatBits, sub_fin hx hy, Option.getD_some]

theorem fop_add64 {x y : Nat} (hx : FinW Ieee.double x) (hy : FinW Ieee.double y) : fop .add .f64 x y =
    Ieee.double.word (if sv Ieee.double x + sv Ieee.double y = 0 then sgn Ieee.double x && sgn Ieee.double y else decide (sv Ieee.double x + sv Ieee.double y < 0)) (min (rg Ieee.double (sv Ieee.double x + sv Ieee.double y).natAbs) Ieee.double.infRung) := fop_add_fin (k := .f64) hx hy
theorem fop_sub64 {x y : Nat} (hx : FinW Ieee.double x) (hy : FinW Ieee.double y) : fop .sub .f64 x y =
    Ieee.double.word (if sv Ieee.double x - sv Ieee.double y = 0 then sgn Ieee.double x && !sgn Ieee.double y else decide (sv Ieee.double x - sv Ieee.double y < 0)) (min (rg Ieee.double (sv Ieee.double x - sv Ieee.double y).natAbs) Ieee.double.infRung) := fop_sub_fin (k := .f64) hx hy

/-! ### how great: Bd c x: x is finite and no greater than 2^(c - 1022) -/
def Bd (c : Nat) (x : Nat) : Prop := FinW Ieee.double x ∧ mv Ieee.double (rung Ieee.double x) ≤ 2 ^ (Ieee.double.fractionBits + c)
theorem Bd.mono {c d x : Nat} (h : Bd c x) (hcd : c ≤ d) : Bd d x := ⟨h.1, Nat.le_trans h.2 (Nat.pow_le_pow_right (by decide) (by omega))⟩
theorem bd_word (neg : Bool) (r c : Nat) (hr : r ≤ (c + 1) * Ieee.double.binade) (hc : c ≤ 2045) : Bd c (Ieee.double.word neg r) := by
  have hri : r < Ieee.double.infRung := by rw [inf64]; rw [bin64] at hr; omega
  have hrs : r < Ieee.double.signWeight := by rw [sw64]; rw [inf64] at hri; omega
  unfold Bd FinW
  rw [rung_word _ _ hrs]
  exact ⟨hri, mv_le_pow hr⟩
theorem bd_sum {x y c : Nat} (hx : Bd c x) (hy : Bd c y) (hc : c ≤ 2044) : Bd (c + 1) (fop .add .f64 x y) ∧ Bd (c + 1) (fop .sub .f64 x y) := by
  have hp : 2 ^ (Ieee.double.fractionBits + (c + 1)) = 2 * 2 ^ (Ieee.double.fractionBits + c) := by rw [← Nat.add_assoc, Nat.pow_succ]; omega
  have hax := natAbs_sv Ieee.double x
  have hay := natAbs_sv Ieee.double y
  have h1 := hx.2
  have h2 := hy.2
  constructor
  · rw [fop_add64 hx.1 hy.1]
    refine bd_word _ _ _ ?_ (by omega)
    refine Nat.le_trans (Nat.min_le_left _ _) (rg_le _ _ _ ?_)
    rw [hp]
    generalize 2 ^ (Ieee.double.fractionBits + c) = T at *
    omega
  · rw [fop_sub64 hx.1 hy.1]
    refine bd_word _ _ _ ?_ (by omega)
    refine Nat.le_trans (Nat.min_le_left _ _) (rg_le _ _ _ ?_)
    rw [hp]
    generalize 2 ^ (Ieee.double.fractionBits + c) = T at *
    omega
theorem bd_mul {x y a b c : Nat} (hx : Bd a x) (hy : Bd b y) (hc : a + b = c + 1022) (hc2 : c ≤ 2045) : Bd c (fop .mul .f64 x y) := by
  have hm : mv Ieee.double (rung Ieee.double x) * mv Ieee.double (rung Ieee.double y) ≤ 2 ^ (Ieee.double.fractionBits + c + un) := by
    refine Nat.le_trans (Nat.mul_le_mul hx.2 hy.2) ?_
    rw [← Nat.pow_add]
    refine Nat.pow_le_pow_right (by decide) ?_
    have : Ieee.double.fractionBits = 52 := rfl
    rw [un_eq]; omega
  obtain ⟨r, h1, h2, h3⟩ := mul_le (f := Ieee.double) un c (by rw [lp64]; rfl) hx.1 hy.1 hm
  have e : fop .mul .f64 x y = Ieee.double.word (sgn Ieee.double x ^^ sgn Ieee.double y) r := by
    unfold fop floatBits
    simp only
    rw [show FloatKind.f64.format.mul x y = _ from h1]
    rfl
  rw [e]
  exact bd_word _ _ _ h2 hc2
theorem bd_div {x y c : Nat} (hx : Bd c x) (hy : FinW Ieee.double y) (h1 : 2 ^ un ≤ mv Ieee.double (rung Ieee.double y)) (hc2 : c ≤ 2045) : Bd c (fop .quo .f64 x y) := by
  have hfb : Ieee.double.fractionBits ≤ un := by rw [un_eq]; have : Ieee.double.fractionBits = 52 := rfl; omega
  obtain ⟨r, h1, h2, h3⟩ := div_le (f := Ieee.double) un c (by rw [lp64]; rfl) hx.1 hy hfb hx.2 h1
  have e : fop .quo .f64 x y = Ieee.double.word (sgn Ieee.double x ^^ sgn Ieee.double y) r := by
    unfold fop floatBits
    simp only
    rw [show FloatKind.f64.format.div x y = _ from h1]
    rfl
  rw [e]
  exact bd_word _ _ _ h2 hc2
theorem bd_nan {c x : Nat} (h : Bd c x) : NaN .f64 x = false := nan_of_fin (k := .f64) h.1
theorem bd_neg {c x : Nat} (h : Bd c x) (hf : Fits .f64 x) : Bd c (fneg .f64 x) := by
  have hn := (neg_fin hf).1
  unfold Bd FinW at *
  rw [show rung Ieee.double (fneg .f64 x) = rung Ieee.double x from hn]
  exact h
/-- A word that is read off: its rung at most (c+1) binades. -/
def bdB (c x : Nat) : Bool := decide (rung Ieee.double x ≤ (c + 1) * Ieee.double.binade) && decide (rung Ieee.double x < Ieee.double.infRung)
theorem bd_lit {c x : Nat} (h : bdB c x = true) : Bd c x := by
  unfold bdB at h
  simp only [Bool.and_eq_true, decide_eq_true_eq] at h
  exact ⟨h.2, mv_le_pow h.1⟩

/-- Not too great for the small kind. -/
theorem bd_over {c x : Nat} (h : Bd c x) (hc : c ≤ 1149) : over .f64 x .f32 = false := by
  have hn := bd_nan h
  have hd : FloatKind.f64.decode x = .number (sgn Ieee.double x) (mg Ieee.double (rung Ieee.double x)) (Ieee.double.leastPlace + ex Ieee.double (rung Ieee.double x)) := read_fin h.1
  have hmv : mv Ieee.double (rung Ieee.double x) ≤ 2 ^ (Ieee.single.fractionBits + 253 + sh) := by
    refine Nat.le_trans h.2 (Nat.pow_le_pow_right (by decide) ?_)
    have h1 : Ieee.single.fractionBits = 23 := rfl
    have h2 : Ieee.double.fractionBits = 52 := rfl
    rw [h1, h2, sh_eq]; omega
  obtain ⟨r, k1, k2, k3⟩ := near_le Ieee.single (sgn Ieee.double x) _ sh 253 hmv
  have hri : r < Ieee.single.infRung := by rw [inf32]; rw [bin32] at k2; omega
  have hrs : r < Ieee.single.signWeight := by rw [sw32]; rw [inf32] at hri; omega
  have henc : FloatKind.f32.encode (.number (sgn Ieee.double x) (mg Ieee.double (rung Ieee.double x)) (Ieee.double.leastPlace + ex Ieee.double (rung Ieee.double x))) = Ieee.single.word (sgn Ieee.double x) r := by
    show Ieee.single.nearest _ _ _ = _
    rw [← k1]
    have hp : Ieee.single.leastPlace - (sh : Int) = Ieee.double.leastPlace := by rw [lp32, lp64, sh_eq]; rfl
    rw [hp, ← near_shift]
    rfl
  have hFin : FinW Ieee.single (Ieee.single.word (sgn Ieee.double x) r) := by unfold FinW; rw [rung_word _ _ hrs]; exact hri
  have hconv : floatToFloatBits .f64 x .f32 = some (Ieee.single.word (sgn Ieee.double x) r) := by
    unfold floatToFloatBits
    rw [if_neg (by decide), hd]
    simp only
    rw [henc]
    have hd2 : FloatKind.f32.decode (Ieee.single.word (sgn Ieee.double x) r) = _ := read_fin hFin
    rw [hd2]
    simp [Datum.isInfinity]
  simp [over, hconv]

/-! ### integers -/
/-- The whole part. -/
def toI (x : Nat) : Int := if sgn Ieee.double x then -((mv Ieee.double (rung Ieee.double x) / 2 ^ un : Nat) : Int) else ((mv Ieee.double (rung Ieee.double x) / 2 ^ un : Nat) : Int)
theorem cut_down (neg : Bool) (n d : Nat) : Toward.zero.cut neg n d = n / 2 ^ d := by
  unfold Toward.cut
  simp only [Nat.shiftLeft_eq, Nat.one_mul, Bool.toNat_false, Nat.add_zero]
  by_cases h : d ≤ n.log2 + 2
  · rw [Nat.min_eq_left h]
  · have hlt := @Nat.lt_log2_self n
    rw [Nat.min_eq_right (by omega)]
    rw [Nat.div_eq_of_lt (Nat.lt_of_lt_of_le hlt (Nat.pow_le_pow_right (by decide) (by omega)))]
    rw [Nat.div_eq_of_lt (Nat.lt_of_lt_of_le hlt (Nat.pow_le_pow_right (by decide) (by omega)))]
theorem trunc_fin {x : Nat} (h : FinW Ieee.double x) : (FloatKind.f64.decode x).toInt .zero = some (toI x) := by
  have hd : FloatKind.f64.decode x = .number (sgn Ieee.double x) (mg Ieee.double (rung Ieee.double x)) (Ieee.double.leastPlace + ex Ieee.double (rung Ieee.double x)) := read_fin h
  rw [hd]
  unfold Datum.toInt Datum.integral
  simp only
  rw [cut_down, Nat.shiftLeft_eq]
  congr 1
  unfold toI signed
  have hq : mg Ieee.double (rung Ieee.double x) * 2 ^ (Ieee.double.leastPlace + (ex Ieee.double (rung Ieee.double x) : Int)).toNat / 2 ^ (-(Ieee.double.leastPlace + (ex Ieee.double (rung Ieee.double x) : Int))).toNat = mv Ieee.double (rung Ieee.double x) / 2 ^ un := by
    unfold mv
    have hlp : Ieee.double.leastPlace = -(un : Int) := by rw [lp64, un_eq]; rfl
    rw [hlp]
    generalize un = u
    generalize mg Ieee.double (rung Ieee.double x) = m
    generalize ex Ieee.double (rung Ieee.double x) = e
    by_cases he : u ≤ e
    · have a1 : (-(u : Int) + (e : Int)).toNat = e - u := by omega
      have a2 : (-(-(u : Int) + (e : Int))).toNat = 0 := by omega
      rw [a1, a2, Nat.pow_zero, Nat.div_one]
      have : m * 2 ^ e = m * 2 ^ (e - u) * 2 ^ u := by rw [Nat.mul_assoc, ← Nat.pow_add]; congr 2; omega
      rw [this, Nat.mul_div_cancel _ (Nat.two_pow_pos _)]
    · have a1 : (-(u : Int) + (e : Int)).toNat = 0 := by omega
      have a2 : (-(-(u : Int) + (e : Int))).toNat = u - e := by omega
      rw [a1, a2, Nat.pow_zero, Nat.mul_one]
      have : 2 ^ u = 2 ^ (u - e) * 2 ^ e := by rw [← Nat.pow_add]; congr 1; omega
      rw [this, Nat.mul_div_mul_right _ _ (Nat.two_pow_pos _)]
  rw [hq]
  simp only [Nat.shiftLeft_zero]

/-- A whole number of at most 53 digits is told exactly. -/
theorem ofI (n : Int) (hn : n.natAbs < 2 ^ 53) : FinW Ieee.double (floatOfInt .f64 n) ∧ sv Ieee.double (floatOfInt .f64 n) = n * (2 ^ un : Nat) ∧ sgn Ieee.double (floatOfInt .f64 n) = decide (n < 0) ∧ Fits .f64 (floatOfInt .f64 n) := by
  have hmv : mv Ieee.double (rg Ieee.double (n.natAbs * 2 ^ un)) = n.natAbs * 2 ^ un := mv_rg Ieee.double _ n.natAbs un rfl hn
  have hle : rg Ieee.double (n.natAbs * 2 ^ un) ≤ (1075 + 1) * Ieee.double.binade := by
    apply rg_le
    have e : 2 ^ (Ieee.double.fractionBits + 1075) = 2 ^ 53 * 2 ^ un := by rw [← Nat.pow_add, show Ieee.double.fractionBits + 1075 = 53 + un from rfl]
    rw [e]
    exact Nat.mul_le_mul_right _ (Nat.le_of_lt hn)
  generalize hR : rg Ieee.double (n.natAbs * 2 ^ un) = R at *
  have hRi : R < Ieee.double.infRung := by rw [inf64]; rw [bin64] at hle; omega
  have hRs : R < Ieee.double.signWeight := by rw [sw64]; rw [inf64] at hRi; omega
  have e : floatOfInt .f64 n = Ieee.double.word (decide (n < 0)) R := by
    show Ieee.double.nearest (decide (n < 0)) n.natAbs 0 = _
    have hp : (0 : Int) = Ieee.double.leastPlace + (un : Int) := by rw [lp64, un_eq]; rfl
    rw [hp, near_V, hR, Nat.min_eq_left (by omega)]
  rw [e]
  refine ⟨?_, ?_, sgn_word _ _ hRs, ?_⟩
  · unfold FinW; rw [rung_word _ _ hRs]; exact hRi
  · rw [sv_word _ _ hRs, hmv]
    generalize 2 ^ un = U
    by_cases h : n < 0
    · have e : n = -(n.natAbs : Int) := by omega
      rw [if_pos (by simpa using h), Int.natCast_mul]
      conv => rhs; rw [e]
      rw [Int.neg_mul]
    · have e : n = (n.natAbs : Int) := by omega
      rw [if_neg (by simpa using h), Int.natCast_mul]
      conv => rhs; rw [e]
  · have : FloatKind.f64.format.signWeight = Ieee.double.signWeight := rfl
    unfold Fits Ieee.Format.word
    rw [this]
    split <;> omega

/-- The walk's fact for int64(x). -/
theorem toI_val {x : Nat} (h : FinW Ieee.double x) (hb : mv Ieee.double (rung Ieee.double x) < 2 ^ 52 * 2 ^ un) : floatToIntVal .f64 x .i64 = some (toI x) ∧ (toI x).natAbs < 2 ^ 53 := by
  have hq : mv Ieee.double (rung Ieee.double x) / 2 ^ un < 2 ^ 52 := (Nat.div_lt_iff_lt_mul (Nat.two_pow_pos _)).2 hb
  have hr : -(2 ^ 52 : Int) < toI x ∧ toI x < 2 ^ 52 := by
    unfold toI
    generalize mv Ieee.double (rung Ieee.double x) / 2 ^ un = q at *
    split <;> omega
  refine ⟨?_, by omega⟩
  unfold floatToIntVal
  rw [trunc_fin h]
  have h1 : IntKind.i64.min ≤ toI x ∧ toI x ≤ IntKind.i64.max := by
    have e1 : IntKind.i64.min = -9223372036854775808 := by decide
    have e2 : IntKind.i64.max = 9223372036854775807 := by decide
    rw [e1, e2]; omega
  simp only
  rw [if_pos h1]

/-- What is left without the whole part. -/
def frac0 (y : Nat) : Nat := fop .sub .f64 y (floatOfInt .f64 (toI y))
abbrev one : Nat := 4607182418800017408
def fracF (y : Nat) : Nat := if FloatKind.f64.format.order (frac0 y) 0 == some .lt then fop .add .f64 (frac0 y) one else frac0 y
theorem bd_one : Bd 1022 one := bd_lit (by decide +kernel)
theorem frac0_bd {y : Nat} (h : FinW Ieee.double y) (hb : mv Ieee.double (rung Ieee.double y) < 2 ^ 52 * 2 ^ un) : Bd 1022 (frac0 y) := by
  obtain ⟨-, hs⟩ := toI_val h hb
  obtain ⟨hf, hv, -, -⟩ := ofI (toI y) hs
  unfold frac0
  rw [fop_sub64 h hf]
  refine bd_word _ _ _ ?_ (by omega)
  refine Nat.le_trans (Nat.min_le_left _ _) (rg_le _ _ _ ?_)
  rw [hv]
  have e : 2 ^ (Ieee.double.fractionBits + 1022) = 2 ^ un := by rw [show Ieee.double.fractionBits + 1022 = un from rfl]
  rw [e]
  clear e
  have hp := Nat.two_pow_pos un
  have hm := Nat.mod_lt (mv Ieee.double (rung Ieee.double y)) hp
  have hd := Nat.div_add_mod (mv Ieee.double (rung Ieee.double y)) (2 ^ un)
  unfold sv toI
  generalize mv Ieee.double (rung Ieee.double y) = V at *
  generalize 2 ^ un = U at *
  have hd' : (U : Int) * ((V / U : Nat) : Int) + ((V % U : Nat) : Int) = (V : Int) := by rw [← Int.natCast_mul, ← Int.natCast_add, hd]
  generalize V / U = q at *
  generalize V % U = r at *
  rw [Int.mul_comm] at hd'
  cases sgn Ieee.double y
  · simp only [Bool.false_eq_true, if_false]
    omega
  · simp only [if_true, Int.neg_mul]
    omega
theorem fracF_bd {y : Nat} (h : FinW Ieee.double y) (hb : mv Ieee.double (rung Ieee.double y) < 2 ^ 52 * 2 ^ un) : Bd 1023 (fracF y) := by
  have h0 := frac0_bd h hb
  unfold fracF
  split
  · exact (bd_sum h0 bd_one (by omega)).1
  · exact h0.mono (by omega)
end Go.Proofs.Ytlabbakmlanfgaa.Flo
