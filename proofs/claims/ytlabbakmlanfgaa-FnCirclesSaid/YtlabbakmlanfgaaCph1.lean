/- A phasor's quarters: how often a quarter is taken off. No condition. -/
import Derived.Test.YtlabbakmlanfgaaCsin4
namespace Go.Proofs.Ytlabbakmlanfgaa
open Go.RowKit Flo Iee
set_option linter.unusedVariables false
namespace TryWalk
def qe : Nat := 1072
theorem svq : FinW Ieee.double quarter ∧ sv Ieee.double quarter = ((2 ^ qe : Nat) : Int) := by
  have e1 : sgn Ieee.double quarter = false := by decide +kernel
  have e2 : rung Ieee.double quarter = (1020 + 1) * Ieee.double.binade := by decide +kernel
  refine ⟨fin_iff (k := .f64).1 (by decide +kernel), ?_⟩
  unfold sv
  rw [e1, e2, mv_pow, show Ieee.double.fractionBits + 1020 = qe from rfl]
  simp only [Bool.false_eq_true, if_false]
theorem ge_q {x : Nat} (h : FinW Ieee.double x) : ge x quarter = decide (((2 ^ qe : Nat) : Int) ≤ sv Ieee.double x) := by
  have e := ge_fin (k := .f64) h svq.1
  rw [show sv FloatKind.f64.format quarter = _ from svq.2] at e
  exact e
theorem sub_q {x : Nat} (h : Bd 1023 x) (hg : ge x quarter = true) : Bd 1023 (fop .sub .f64 x quarter) ∧ sv Ieee.double (fop .sub .f64 x quarter) = sv Ieee.double x - ((2 ^ qe : Nat) : Int) := by
  rw [ge_q h.1] at hg
  have hle := of_decide_eq_true hg
  have hpos := Nat.two_pow_pos qe
  have hs : sgn Ieee.double x = false := by
    cases hsx : sgn Ieee.double x with
    | false => rfl
    | true =>
      exfalso
      unfold sv at hle
      rw [hsx] at hle
      simp only [if_true] at hle
      generalize 2 ^ qe = T at *
      omega
  have hv : sv Ieee.double x = (mv Ieee.double (rung Ieee.double x) : Int) := by
    unfold sv; rw [hs]; simp only [Bool.false_eq_true, if_false]
  have hV : 2 ^ qe ≤ mv Ieee.double (rung Ieee.double x) := by
    rw [hv] at hle; exact Int.ofNat_le.1 hle
  have hml := mg_lt Ieee.double (rung Ieee.double x)
  have hex : 1020 ≤ ex Ieee.double (rung Ieee.double x) := by
    by_cases hc : 1020 ≤ ex Ieee.double (rung Ieee.double x)
    · exact hc
    · exfalso
      obtain ⟨c, hcc⟩ : ∃ c, c = 1019 := ⟨_, rfl⟩
      have h1 : mv Ieee.double (rung Ieee.double x) < 2 ^ 53 * 2 ^ c := by
        unfold mv
        exact Nat.lt_of_lt_of_le (Nat.mul_lt_mul_of_pos_right hml (Nat.two_pow_pos _)) (Nat.mul_le_mul_left _ (Nat.pow_le_pow_right (by decide) (by omega)))
      rw [← Nat.pow_add] at h1
      have h2 : qe = 53 + c := by rw [hcc]; rfl
      rw [h2] at hV
      exact Nat.lt_irrefl _ (Nat.lt_of_lt_of_le h1 hV)
  have hmg : 2 ^ 52 ≤ mg Ieee.double (rung Ieee.double x) := by
    unfold ex at hex
    unfold mg
    split at hex
    · omega
    · rename_i hn
      rw [if_neg hn, bin64]
      exact Nat.le_add_right _ _
  have hex2 : ex Ieee.double (rung Ieee.double x) ≤ 1023 := by
    by_cases hc : ex Ieee.double (rung Ieee.double x) ≤ 1023
    · exact hc
    · exfalso
      obtain ⟨c, hcc⟩ : ∃ c, c = 1024 := ⟨_, rfl⟩
      have h1 : 2 ^ 52 * 2 ^ c ≤ mv Ieee.double (rung Ieee.double x) := by
        unfold mv
        exact Nat.mul_le_mul hmg (Nat.pow_le_pow_right (by decide) (by omega))
      have h2 := h.2
      rw [← Nat.pow_add] at h1
      have h3 : 2 ^ (Ieee.double.fractionBits + 1023) < 2 ^ (52 + c) := Nat.pow_lt_pow_right (by decide) (by have : Ieee.double.fractionBits = 52 := rfl; omega)
      exact Nat.lt_irrefl _ (Nat.lt_of_lt_of_le h3 (Nat.le_trans h1 h2))
  have hd : mv Ieee.double (rung Ieee.double x) - 2 ^ qe = (mg Ieee.double (rung Ieee.double x) - 2 ^ (qe - ex Ieee.double (rung Ieee.double x))) * 2 ^ ex Ieee.double (rung Ieee.double x) := by
    rw [Nat.sub_mul, ← Nat.pow_add]
    have : qe - ex Ieee.double (rung Ieee.double x) + ex Ieee.double (rung Ieee.double x) = qe := by have : qe = 1072 := rfl; omega
    rw [this]
    rfl
  have hmr := mv_rg Ieee.double _ _ _ hd (Nat.lt_of_le_of_lt (Nat.sub_le _ _) hml)
  have hrl : rg Ieee.double (mv Ieee.double (rung Ieee.double x) - 2 ^ qe) ≤ (1023 + 1) * Ieee.double.binade := rg_le _ _ _ (Nat.le_trans (Nat.sub_le _ _) h.2)
  have hri : rg Ieee.double (mv Ieee.double (rung Ieee.double x) - 2 ^ qe) < Ieee.double.infRung := by rw [inf64]; rw [bin64] at hrl; omega
  have hrs : rg Ieee.double (mv Ieee.double (rung Ieee.double x) - 2 ^ qe) < Ieee.double.signWeight := by rw [sw64]; rw [inf64] at hri; omega
  have hdi : sv Ieee.double x - ((2 ^ qe : Nat) : Int) = ((mv Ieee.double (rung Ieee.double x) - 2 ^ qe : Nat) : Int) := by
    rw [hv, Int.ofNat_sub hV]
  have hsgn : (if sv Ieee.double x - ((2 ^ qe : Nat) : Int) = 0 then sgn Ieee.double x && !sgn Ieee.double quarter else decide (sv Ieee.double x - ((2 ^ qe : Nat) : Int) < 0)) = false := by
    split
    · rw [hs]; rfl
    · rw [decide_eq_false_iff_not, hdi]
      exact Int.not_lt.2 (Int.natCast_nonneg _)
  have e : fop .sub .f64 x quarter = Ieee.double.word false (rg Ieee.double (mv Ieee.double (rung Ieee.double x) - 2 ^ qe)) := by
    rw [fop_sub64 h.1 svq.1, svq.2, hsgn, hdi, Int.natAbs_natCast, Nat.min_eq_left (Nat.le_of_lt hri)]
  rw [e]
  refine ⟨bd_word _ _ _ hrl (by omega), ?_⟩
  rw [sv_word _ _ hrs, hmr, hdi]
  simp only [Bool.false_eq_true, if_false]

/-- What is left of f behind i quarters. -/
def QF (f : Nat) : Nat → Nat
  | 0 => f
  | i + 1 => fop .sub .f64 (QF f i) quarter
theorem QF_sv {f : Nat} (h : Bd 1023 f) : ∀ k, (∀ j, j < k → ge (QF f j) quarter = true) → Bd 1023 (QF f k) ∧ sv Ieee.double (QF f k) = sv Ieee.double f - (k : Int) * ((2 ^ qe : Nat) : Int) := by
  intro k
  induction k with
  | zero => intro _; exact ⟨h, by unfold QF; simp⟩
  | succ k ih =>
    intro hall
    obtain ⟨h1, h2⟩ := ih (fun j hj => hall j (by omega))
    obtain ⟨h3, h4⟩ := sub_q h1 (hall k (by omega))
    refine ⟨h3, ?_⟩
    show sv Ieee.double (fop .sub .f64 (QF f k) quarter) = _
    rw [h4, h2, Int.natCast_add, Int.add_mul]
    generalize ((2 ^ qe : Nat) : Int) = T
    generalize (k : Int) * T = S
    simp
    omega
theorem QF_le {f : Nat} (h : Bd 1023 f) (k : Nat) (hall : ∀ j, j < k → ge (QF f j) quarter = true) : k ≤ 8 := by
  cases k with
  | zero => omega
  | succ k =>
    obtain ⟨h1, h2⟩ := QF_sv h k (fun j hj => hall j (by omega))
    have hg := hall k (by omega)
    rw [ge_q h1.1] at hg
    have hle := of_decide_eq_true hg
    rw [h2] at hle
    have ha := natAbs_sv Ieee.double f
    have hb := h.2
    have hp : 2 ^ (Ieee.double.fractionBits + 1023) = 8 * 2 ^ qe := by
      rw [show Ieee.double.fractionBits + 1023 = 3 + qe from rfl, Nat.pow_add]
    rw [hp] at hb
    clear hp h h1 h2 hall hg
    have hpos := Nat.two_pow_pos qe
    generalize 2 ^ qe = T at *
    have hk : (k : Int) * (T : Int) ≤ 7 * (T : Int) := by omega
    have := Int.le_of_mul_le_mul_right hk (by omega)
    omega
/-- How many quarters are taken off, in i tries. -/
def qS (f : Nat) : Nat → Nat
  | 0 => 0
  | i + 1 => if ge (QF f (qS f i)) quarter then qS f i + 1 else qS f i
theorem qS_eq {f k : Nat} (hall : ∀ j, j < k → ge (QF f j) quarter = true) (hno : ge (QF f k) quarter = false) : ∀ i, qS f i = min i k := by
  intro i
  induction i with
  | zero => simp [qS]
  | succ i ih =>
    unfold qS
    rw [ih]
    by_cases hik : i < k
    · rw [Nat.min_eq_left (by omega), hall i hik, if_pos rfl, Nat.min_eq_left (by omega)]
    · rw [Nat.min_eq_right (by omega), hno, if_neg (by decide), Nat.min_eq_right (by omega)]
theorem qS_end {f k : Nat} (h : Bd 1023 f) (hall : ∀ j, j < k → ge (QF f j) quarter = true) (hno : ge (QF f k) quarter = false) : qS f 9 = k := by
  rw [qS_eq hall hno, Nat.min_eq_right]
  have := QF_le h k hall
  omega
/-- Both parts in 64 bits, when q quarters were taken off and g is left. -/
def PQ (g q : Nat) : Nat × Nat :=
  if q = 1 then (fop .sub .f64 0 (sineF g), sineF (fop .sub .f64 quarter g))
  else if q = 2 then (fop .sub .f64 0 (sineF (fop .sub .f64 quarter g)), fop .sub .f64 0 (sineF g))
  else if q = 3 then (sineF g, fop .sub .f64 0 (sineF (fop .sub .f64 quarter g)))
  else (sineF (fop .sub .f64 quarter g), sineF g)
def PF (f : Nat) : Nat × Nat := PQ (QF f (qS f 9)) (qS f 9)
/-- The phasor's two words. -/
def phS (y : Nat) : Nat × Nat :=
  if fin .f64 y then (if big y then (1065353216, 0) else (fconv .f64 (PF (fracF y)).1 .f32, fconv .f64 (PF (fracF y)).2 .f32)) else (qn .f32, qn .f32)

/-! ### how great -/
theorem bd_small {x c : Nat} (h : Bd c x) (hc : c ≤ 1073) : mv Ieee.double (rung Ieee.double x) < 2 ^ 52 * 2 ^ un := by
  refine Nat.lt_of_le_of_lt h.2 ?_
  rw [← Nat.pow_add]
  refine Nat.pow_lt_pow_right (by decide) ?_
  have : Ieee.double.fractionBits = 52 := rfl
  rw [un_eq]; omega
theorem bd_zsub {x c : Nat} (h : Bd c x) (hc : c ≤ 2045) : Bd c (fop .sub .f64 0 x) := by
  have h0 : FinW Ieee.double 0 := fin_zero .f64
  rw [fop_sub64 h0 h.1]
  refine bd_word _ _ _ ?_ hc
  refine Nat.le_trans (Nat.min_le_left _ _) (rg_le _ _ _ ?_)
  rw [sv_zero, Int.zero_sub, Int.natAbs_neg, natAbs_sv]
  exact h.2
theorem bd_quarter : Bd 1023 quarter := bd_lit (by decide +kernel)
theorem g_sine {g : Nat} (h : Bd 1023 g) : Bd 1149 (sineF g) := sine_bd (fracF_bd h.1 (bd_small h (by omega)))
theorem bd_qg {g : Nat} (h : Bd 1023 g) : Bd 1024 (fop .sub .f64 quarter g) := (bd_sum bd_quarter h (by omega)).2
theorem qg_sine {g : Nat} (h : Bd 1023 g) : Bd 1149 (sineF (fop .sub .f64 quarter g)) := sine_bd (fracF_bd (bd_qg h).1 (bd_small (bd_qg h) (by omega)))
end TryWalk
end Go.Proofs.Ytlabbakmlanfgaa
