/- The law on RootNumber. No condition. -/
import Derived.Test.YtlabbakmlanfgaaWbase
namespace Go.Proofs.Ytlabbakmlanfgaa
open Go.RowKit Flo Iee
set_option linter.unusedVariables false
namespace TryWalk
def fsqrt (x : Nat) : Nat := (Ieee.double.sqrt x).getD (qn .f64)
theorem sqrt_nan {x : Nat} (h : NaN .f64 x = true) : Ieee.double.sqrt x = none := by
  obtain ⟨s, t, e⟩ := decode_nan h
  have e' : Ieee.double.read x = .nan s t := e
  simp [Ieee.Format.sqrt, e', Ieee.Datum.root]
theorem fsqrt_congr {x y : Nat} (h : Sim .f64 x y) : fsqrt x = fsqrt y := by
  rcases h with rfl | ⟨h1, h2⟩
  · rfl
  · simp [fsqrt, sqrt_nan h1, sqrt_nan h2]
theorem sqrt_eq (x : Nat) : Extern.MathSqrt.sqrt #[.float .f64 x] = (match FloatKind.f64.format.sqrt x with
    | some r => pure (.float .f64 r)
    | none => do pure (.float .f64 (← choose (.nanBits .f64 x x)))) := rfl
theorem run_sqrt (x : Nat) (w : World) : ∃ r n, (callFunc 82 #[.float .f64 x]).run Try.prog w = .ok (.value (.float .f64 r)) (w.drewN n) ∧ Sim .f64 r (fsqrt x) ∧ Fits .f64 r := by
  have hx : ∀ w, (callFunc 82 #[.float .f64 x]).run Try.prog w = ((Extern.MathSqrt.sqrt #[.float .f64 x]).run Try.prog w).andThen fun v w' => .ok (.value v) w' :=
    fun w => run_callFunc_extern (e := Extern.MathSqrt.sqrt) Try.func82 (by kernel_rfl) (by kernel_rfl) (by kernel_rfl) (by kernel_rfl) _ w
  rw [hx, sqrt_eq]
  cases h : FloatKind.f64.format.sqrt x with
  | some r =>
    refine ⟨r, 0, by simp [World.drewN_zero], ?_, fits_of_wf (wf_of_lt .f64 r (Ieee.Format.sqrt_lt _ h))⟩
    have h' : Ieee.double.sqrt x = some r := h
    simp [fsqrt, h', Sim.refl]
  | none =>
    refine ⟨(Question.nanBits .f64 x x).cut (w.tape w.drawn (.nanBits .f64 x x)), 1, by simp [Question.forced, World.drew_is_drewN], ?_, fits_nanBits _ _ _ _⟩
    have h' : Ieee.double.sqrt x = none := h
    simp only [fsqrt, h', Option.getD_none]
    exact Sim.of_nan (cut_nanBits .f64 x x _)
theorem sqrtW (x F : Nat) (w : World) (hs : Sim .f64 x F) : Calls Try.prog 62 #[.float .f64 x] w (RetF .f64 (fsqrt F) w) := by
  obtain ⟨r, n, hr, hsim, hb⟩ := run_sqrt x w
  go_enter Try.func62, Try.ntmps62
  go_wp2
  go_ret
  exact ⟨r, n, rfl, rfl, by rw [← fsqrt_congr hs]; exact hsim, hb⟩

/-! ### how great a root is -/
theorem rootFrom_sq (n todo : Nat) : ∀ root, root * root ≤ n → Ieee.Datum.rootFrom n todo root * Ieee.Datum.rootFrom n todo root ≤ n := by
  induction todo with
  | zero => intro root h; exact h
  | succ t ih =>
    intro root h
    unfold Ieee.Datum.rootFrom
    simp only
    apply ih
    split
    · assumption
    · exact h
theorem sqrt_bd {y : Nat} (h : Bd 1150 y) (hs : sgn Ieee.double y = false) : ∃ r, Ieee.double.sqrt y = some r ∧ Bd 1092 r ∧ sgn Ieee.double r = false := by
  unfold Ieee.Format.sqrt
  rw [read_fin h.1, hs]
  unfold Ieee.Datum.root
  simp only
  have hmv := h.2
  unfold mv at hmv
  generalize mg Ieee.double (rung Ieee.double y) = m at *
  generalize ex Ieee.double (rung Ieee.double y) = e at *
  by_cases hm : m = 0
  · subst hm
    simp only [if_true, Option.map_some]
    refine ⟨_, rfl, ?_⟩
    have : Ieee.double.write (.number false 0 (Ieee.double.leastPlace + (e : Int))) = Ieee.double.word false 0 := by
      simp [Ieee.Format.write, Ieee.Format.nearest]
    rw [this]
    exact ⟨bd_word _ _ _ (Nat.zero_le _) (by omega), sgn_word _ _ (Nat.two_pow_pos _)⟩
  · rw [if_neg hm]
    simp only [Bool.false_eq_true, if_false, Option.map_some]
    have hle : m.log2 + e ≤ 1202 := by
      have a := Nat.log2_self_le hm
      have b : 2 ^ (m.log2 + e) ≤ 2 ^ (Ieee.double.fractionBits + 1150) := by
        rw [Nat.pow_add]; exact Nat.le_trans (Nat.mul_le_mul_right _ a) hmv
      have c := (Nat.pow_le_pow_iff_right (by decide)).1 b
      have : Ieee.double.fractionBits = 52 := rfl
      omega
    generalize hmo : 2 * (Ieee.double.fractionBits + 2) - m.log2 + ((Ieee.double.leastPlace + (e : Int) - ((2 * (Ieee.double.fractionBits + 2) - m.log2 : Nat) : Int)) % 2).toNat = more
    rw [Nat.shiftLeft_eq]
    have hn0 : m * 2 ^ more ≠ 0 := Nat.mul_ne_zero hm (Nat.ne_of_gt (Nat.two_pow_pos _))
    have hl2 := log2_mul_pow m more hm
    have hsq := rootFrom_sq (m * 2 ^ more) ((m * 2 ^ more).log2 / 2 + 1) 0 (Nat.zero_le _)
    generalize Ieee.Datum.rootFrom (m * 2 ^ more) ((m * 2 ^ more).log2 / 2 + 1) 0 = whole at *
    have hlt := @Nat.lt_log2_self (m * 2 ^ more)
    rw [hl2] at hlt
    have hwh : whole < 2 ^ ((m.log2 + more) / 2 + 1) := by
      rcases Nat.lt_or_ge whole (2 ^ ((m.log2 + more) / 2 + 1)) with a | a
      · exact a
      · exfalso
        have b := Nat.mul_le_mul a a
        rw [← Nat.pow_add] at b
        have c : 2 ^ (m.log2 + more + 1) ≤ 2 ^ ((m.log2 + more) / 2 + 1 + ((m.log2 + more) / 2 + 1)) := Nat.pow_le_pow_right (by decide) (by omega)
        omega
    have hmag : 2 * whole + (whole * whole != m * 2 ^ more).toNat ≤ 2 ^ ((m.log2 + more) / 2 + 2) := by
      have := Bool.toNat_le (whole * whole != m * 2 ^ more)
      rw [Nat.pow_succ]; omega
    generalize hpl : (Ieee.double.leastPlace + (e : Int) - (more : Int)) / 2 - 1 = place
    have hplace : place ≤ 64 - (((m.log2 + more) / 2 : Nat) : Int) := by
      rw [lp64] at hpl
      omega
    have hfin : (2 * whole + (whole * whole != m * 2 ^ more).toNat) * 2 ^ (place + 1074).toNat ≤ 2 ^ (Ieee.double.fractionBits + 1092 + (-(place + 1074)).toNat) := by
      refine Nat.le_trans (Nat.mul_le_mul_right _ hmag) ?_
      rw [← Nat.pow_add]
      refine Nat.pow_le_pow_right (by decide) ?_
      have : Ieee.double.fractionBits = 52 := rfl
      omega
    obtain ⟨r, k1, k2, k3⟩ := near_le Ieee.double false _ _ 1092 hfin
    refine ⟨_, rfl, ?_⟩
    have e1 : Ieee.double.write (.number false (2 * whole + (whole * whole != m * 2 ^ more).toNat) place) = Ieee.double.word false r := by
      show Ieee.double.nearest _ _ _ = _
      rw [← k1, near_shift]
      congr 1
      rw [lp64]; omega
    rw [e1]
    exact ⟨bd_word _ _ _ k2 (by omega), sgn_word _ _ (Nat.lt_of_le_of_lt k3 (Ieee.Format.infRung_lt _))⟩
theorem sqrt_neg {y : Nat} (h : FinW Ieee.double y) (hs : sgn Ieee.double y = true) (h0 : rung Ieee.double y ≠ 0) : Ieee.double.sqrt y = none := by
  unfold Ieee.Format.sqrt
  rw [read_fin h, hs]
  unfold Ieee.Datum.root
  have : mg Ieee.double (rung Ieee.double y) ≠ 0 := mg_ne_zero h0
  simp [this]
theorem sqrt_zero {y : Nat} (h : FinW Ieee.double y) (h0 : rung Ieee.double y = 0) : ∃ r, Ieee.double.sqrt y = some r ∧ Bd 1092 r := by
  unfold Ieee.Format.sqrt
  rw [read_fin h, h0]
  have : mg Ieee.double 0 = 0 := by simp [mg, binade_pos Ieee.double]
  rw [this]
  unfold Ieee.Datum.root
  simp only [if_true, Option.map_some]
  refine ⟨_, rfl, ?_⟩
  simp only [Ieee.Format.write, Ieee.Format.nearest, if_true]
  exact bd_word _ _ _ (Nat.zero_le _) (by omega)
theorem root_over (x : Nat) : over .f64 (fsqrt (fconv .f32 x .f64)) .f32 = false := by
  rcases three .f32 x with h | h | h
  · obtain ⟨g1, g2, g3, g4⟩ := fconv_up h
    have hbd : Bd 1150 (fconv .f32 x .f64) := by
      refine ⟨g1, ?_⟩
      rw [g4]
      have hmv : mv Ieee.single (rung Ieee.single x) ≤ 2 ^ (Ieee.single.fractionBits + 254) := by
        apply mv_le_pow
        have h' : rung Ieee.single x < Ieee.single.infRung := h
        rw [inf32] at h'; rw [bin32]; omega
      refine Nat.le_trans (Nat.mul_le_mul_right _ hmv) ?_
      rw [← Nat.pow_add]
      refine Nat.pow_le_pow_right (by decide) ?_
      have a : Ieee.single.fractionBits = 23 := rfl
      have b : Ieee.double.fractionBits = 52 := rfl
      rw [a, b, sh_eq]; omega
    by_cases h0 : rung Ieee.double (fconv .f32 x .f64) = 0
    · obtain ⟨r, hr, hb⟩ := sqrt_zero g1 h0
      have : fsqrt (fconv .f32 x .f64) = r := by simp [fsqrt, hr]
      rw [this]; exact bd_over hb (by omega)
    · cases hs : sgn Ieee.double (fconv .f32 x .f64)
      · obtain ⟨r, hr, hb, -⟩ := sqrt_bd hbd hs
        have : fsqrt (fconv .f32 x .f64) = r := by simp [fsqrt, hr]
        rw [this]; exact bd_over hb (by omega)
      · have : fsqrt (fconv .f32 x .f64) = qn .f64 := by simp [fsqrt, sqrt_neg g1 hs h0]
        rw [this]; simp [over, NaN_qn]
  · have hc := conv_inf (s := .f32) (k := .f64) (by decide) h
    have e : fconv .f32 x .f64 = FloatKind.f64.format.word (sgn FloatKind.f32.format x) FloatKind.f64.format.infRung := by simp [fconv, hc]
    have hi : FloatKind.f64.format.infRung < FloatKind.f64.format.signWeight := Ieee.Format.infRung_lt _
    rw [e]
    cases sgn FloatKind.f32.format x <;> decide +kernel
  · have := nan_fconv (s := .f32) (k := .f64) (by decide) h
    have : fsqrt (fconv .f32 x .f64) = qn .f64 := by simp [fsqrt, sqrt_nan this]
    rw [this]; simp [over, NaN_qn]
end TryWalk
end Go.Proofs.Ytlabbakmlanfgaa
