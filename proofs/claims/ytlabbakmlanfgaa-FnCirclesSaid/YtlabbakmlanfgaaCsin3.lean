/- Walks of the sine, the reference's way. No condition. -/
import Derived.Test.YtlabbakmlanfgaaCsin2
namespace Go.Proofs.Ytlabbakmlanfgaa
open Go.RowKit Flo Iee
set_option linter.unusedVariables false
namespace TryWalk
theorem fin_neq {k : FloatKind} {y : Nat} (h : FinW k.format y) : (k.format.order (fop .sub k y y) 0 != some .eq) = false := by
  have := isFin_eq k y
  rw [fin_iff.2 h] at this
  unfold isFin at this
  rw [bne, this]; rfl
theorem sv52 : FinW Ieee.double 4841369599423283200 ∧ sv Ieee.double 4841369599423283200 = ((2 ^ 52 * 2 ^ un : Nat) : Int) := by
  have e1 : sgn Ieee.double 4841369599423283200 = false := by decide +kernel
  have e2 : rung Ieee.double 4841369599423283200 = (1074 + 1) * Ieee.double.binade := by decide +kernel
  refine ⟨fin_iff (k := .f64).1 (by decide +kernel), ?_⟩
  unfold sv
  rw [e1, e2, mv_pow, ← Nat.pow_add, show Ieee.double.fractionBits + 1074 = 52 + un from rfl]
  simp only [Bool.false_eq_true, if_false]
theorem svm52 : FinW Ieee.double 14064741636278059008 ∧ sv Ieee.double 14064741636278059008 = -((2 ^ 52 * 2 ^ un : Nat) : Int) := by
  have e1 : sgn Ieee.double 14064741636278059008 = true := by decide +kernel
  have e2 : rung Ieee.double 14064741636278059008 = (1074 + 1) * Ieee.double.binade := by decide +kernel
  refine ⟨fin_iff (k := .f64).1 (by decide +kernel), ?_⟩
  unfold sv
  rw [e1, e2, mv_pow, ← Nat.pow_add, show Ieee.double.fractionBits + 1074 = 52 + un from rfl]
  simp only [if_true]
theorem lt52 {y : Nat} (h : FinW Ieee.double y) (hb : mv Ieee.double (rung Ieee.double y) < 2 ^ 52 * 2 ^ un) : (FloatKind.f64.format.order y 4841369599423283200 == some .gt || FloatKind.f64.format.order y 4841369599423283200 == some .eq) = false := by
  have e := ge_fin (k := .f64) h sv52.1
  rw [e]
  have ha := natAbs_sv Ieee.double y
  have h2 := sv52.2
  have : ¬ sv Ieee.double 4841369599423283200 ≤ sv Ieee.double y := by
    rw [h2]
    generalize 2 ^ 52 * 2 ^ un = T at *
    omega
  exact decide_eq_false this
theorem gtm52 {y : Nat} (h : FinW Ieee.double y) (hb : mv Ieee.double (rung Ieee.double y) < 2 ^ 52 * 2 ^ un) : (FloatKind.f64.format.order y 14064741636278059008 == some .lt || FloatKind.f64.format.order y 14064741636278059008 == some .eq) = false := by
  have e := le_fin (k := .f64) h svm52.1
  rw [e]
  have ha := natAbs_sv Ieee.double y
  have h2 := svm52.2
  have : ¬ sv Ieee.double y ≤ sv Ieee.double 14064741636278059008 := by
    rw [h2]
    generalize 2 ^ 52 * 2 ^ un = T at *
    omega
  exact decide_eq_false this
theorem prod_wrap (c : Int) (h1 : 1 ≤ c) (h2 : c ≤ 8) : IntKind.i64.wrap (2 * c * (2 * c + 1)) = 2 * c * (2 * c + 1) := by
  have : c = 1 ∨ c = 2 ∨ c = 3 ∨ c = 4 ∨ c = 5 ∨ c = 6 ∨ c = 7 ∨ c = 8 := by omega
  rcases this with rfl | rfl | rfl | rfl | rfl | rfl | rfl | rfl <;> decide
theorem cK_int (i : Nat) (c : Int) (hi : i < 8) (hc : c = 8 - (i : Int)) : floatOfInt .f64 (2 * c * (2 * c + 1)) = cK i := by
  rw [← kb_int i hi]
  subst hc
  congr 1
  have : i = 0 ∨ i = 1 ∨ i = 2 ∨ i = 3 ∨ i = 4 ∨ i = 5 ∨ i = 6 ∨ i = 7 := by omega
  rcases this with rfl | rfl | rfl | rfl | rfl | rfl | rfl | rfl <;> decide
set_option maxHeartbeats 1000000 in
theorem spW000 (y : Nat) (w : World) (h : FinW Ieee.double y) (hb : mv Ieee.double (rung Ieee.double y) < 2 ^ 52 * 2 ^ un) (h0 : (FloatKind.f64.format.order (frac0 y) 0 == some .lt) = false) (h1 : ge (fracF y) half = false) (h2 : gt (E1 y) quarter = false) : Calls Try.prog 81 #[.float .f64 y] w (RetF .f64 (sineF y) w) := by
  have hneg := neg64
  have hc : ∀ w, (convert 25 2 (.float .f64 y)).run Try.prog w = .ok (.int .i64 (toI y)) w := fun w => run_convert_float_int w 25 2 .f64 .i64 y (toI y) u25 Try.underlying2 (toI_val h hb).1
  have e0 := hid (show fracF y = fop .sub .f64 y (floatOfInt .f64 (toI y)) from by unfold fracF; rw [h0]; rfl)
  have e1 := hid (E1_f h1)
  have e3 := hid (sineF_f h1)
  have e2 := hid (E2_f h2)
  rw [e1.out, e0.out] at h2
  rw [e0.out] at h1
  have t0 : (FloatKind.f64.format.order (fop .sub .f64 y y) 0 != some .eq) = false := fin_neq h
  have t3 : (FloatKind.f64.format.order y 4841369599423283200 == some .gt || FloatKind.f64.format.order y 4841369599423283200 == some .eq) = false := lt52 h hb
  have t4 : (FloatKind.f64.format.order y 14064741636278059008 == some .lt || FloatKind.f64.format.order y 14064741636278059008 == some .eq) = false := gtm52 h hb
  have t5 : (FloatKind.f64.format.order (fop .sub .f64 y (floatOfInt .f64 (toI y))) 0 == some .lt) = false := h0
  have t1 : (FloatKind.f64.format.order (fop .sub .f64 y (floatOfInt .f64 (toI y))) 4602678819172646912 == some .gt || FloatKind.f64.format.order (fop .sub .f64 y (floatOfInt .f64 (toI y))) 4602678819172646912 == some .eq) = false := h1
  have t2 : (FloatKind.f64.format.order (fop .sub .f64 y (floatOfInt .f64 (toI y))) 4598175219545276416 == some .gt) = false := h2
  have tr := toI_val h hb
  have tr1 : -9223372036854775808 ≤ toI y := by have := tr.2; omega
  have tr2 : toI y ≤ 9223372036854775807 := by have := tr.2; omega
  clear h0 h1 h2 h hb tr
  go_enter Try.func81, Try.ntmps81
  go_wp2_with (refine wpList_fsim rfl _ _ _ _ _ rfl rfl .f64 _ _ rfl rfl (by first | with_reducible assumption | exact Sim.refl _ _) (by first | with_reducible assumption | exact Sim.refl _ _) ?_; intro r n hr hb; have ht := order_congr hr (Sim.refl .f64 4598175219545276416); have ht0 := order_congr hr (Sim.refl .f64 0); have ht1 := order_congr hr (Sim.refl .f64 4602678819172646912))
  go_loopw [7, 8] (fun p k wr => ∃ (i q n : Nat) (c : Int), i ≤ 8 ∧ k = .int .i64 c ∧ Hid (c = 8 - (i : Int)) ∧ p = .float .f64 q ∧ Sim .f64 q (polyF (fop .mul .f64 (fop .mul .f64 (fop .sub .f64 y (floatOfInt .f64 (toI y))) twoPi) (fop .mul .f64 (fop .sub .f64 y (floatOfInt .f64 (toI y))) twoPi)) i) ∧ wr = w.drewN n) (fun _ k _ => (intOf k).toNat)
  case atStart => exact ⟨0, one, _, 8, by omega, rfl, hid rfl, rfl, Sim.refl _ _, rfl⟩
  case round =>
    obtain ⟨i, q, n, c, hi, rfl, hcc, rfl, hq, rfl⟩ := hrel
    by_cases hlt : i < 8
    · have hc1 : 1 ≤ c := by have := hcc.out; omega
      have hc2 : c ≤ 8 := by have := hcc.out; omega
      have hw : IntKind.i64.wrap (2 * c * (2 * c + 1)) = 2 * c * (2 * c + 1) := prod_wrap c hc1 hc2
      have HI := hid (cK_int i c hlt hcc.out)
      go_wp2_with (refine wpList_fsim rfl _ _ _ _ _ rfl rfl .f64 _ _ rfl rfl (by first | with_reducible assumption | exact Sim.refl _ _) (by first | with_reducible assumption | exact Sim.refl _ _) ?_; intro r n hr hb)
      go_roundw
      case rel => exact ⟨i + 1, _, _, c - 1, by omega, rfl, hid (by have := hcc.out; omega), rfl, by show Sim _ _ (fop .sub .f64 one (fop .quo .f64 (fop .mul .f64 (fop .mul .f64 (fop .mul .f64 (fop .sub .f64 y (floatOfInt .f64 (toI y))) twoPi) (fop .mul .f64 (fop .sub .f64 y (floatOfInt .f64 (toI y))) twoPi)) (polyF (fop .mul .f64 (fop .mul .f64 (fop .sub .f64 y (floatOfInt .f64 (toI y))) twoPi) (fop .mul .f64 (fop .sub .f64 y (floatOfInt .f64 (toI y))) twoPi)) i)) (cK i))); rw [← HI.out]; with_reducible assumption, rfl⟩
      case measure => simp [intOf]; omega
    · obtain rfl : i = 8 := by omega
      obtain rfl : c = 0 := by have := hcc.out; omega
      go_wp2_with (refine wpList_fsim rfl _ _ _ _ _ rfl rfl .f64 _ _ rfl rfl (by first | with_reducible assumption | exact Sim.refl _ _) (by first | with_reducible assumption | exact Sim.refl _ _) ?_; intro r n hr hb)
      go_ret
      exact ⟨_, _, rfl, rfl, by rw [e3.out]; unfold res Z; rw [e2.out, e1.out, e0.out]; with_reducible assumption, hb⟩
set_option maxHeartbeats 1000000 in
theorem spW001 (y : Nat) (w : World) (h : FinW Ieee.double y) (hb : mv Ieee.double (rung Ieee.double y) < 2 ^ 52 * 2 ^ un) (h0 : (FloatKind.f64.format.order (frac0 y) 0 == some .lt) = false) (h1 : ge (fracF y) half = false) (h2 : gt (E1 y) quarter = true) : Calls Try.prog 81 #[.float .f64 y] w (RetF .f64 (sineF y) w) := by
  have hneg := neg64
  have hc : ∀ w, (convert 25 2 (.float .f64 y)).run Try.prog w = .ok (.int .i64 (toI y)) w := fun w => run_convert_float_int w 25 2 .f64 .i64 y (toI y) u25 Try.underlying2 (toI_val h hb).1
  have e0 := hid (show fracF y = fop .sub .f64 y (floatOfInt .f64 (toI y)) from by unfold fracF; rw [h0]; rfl)
  have e1 := hid (E1_f h1)
  have e3 := hid (sineF_f h1)
  have e2 := hid (E2_t h2)
  rw [e1.out, e0.out] at h2
  rw [e0.out] at h1
  have t0 : (FloatKind.f64.format.order (fop .sub .f64 y y) 0 != some .eq) = false := fin_neq h
  have t3 : (FloatKind.f64.format.order y 4841369599423283200 == some .gt || FloatKind.f64.format.order y 4841369599423283200 == some .eq) = false := lt52 h hb
  have t4 : (FloatKind.f64.format.order y 14064741636278059008 == some .lt || FloatKind.f64.format.order y 14064741636278059008 == some .eq) = false := gtm52 h hb
  have t5 : (FloatKind.f64.format.order (fop .sub .f64 y (floatOfInt .f64 (toI y))) 0 == some .lt) = false := h0
  have t1 : (FloatKind.f64.format.order (fop .sub .f64 y (floatOfInt .f64 (toI y))) 4602678819172646912 == some .gt || FloatKind.f64.format.order (fop .sub .f64 y (floatOfInt .f64 (toI y))) 4602678819172646912 == some .eq) = false := h1
  have t2 : (FloatKind.f64.format.order (fop .sub .f64 y (floatOfInt .f64 (toI y))) 4598175219545276416 == some .gt) = true := h2
  have tr := toI_val h hb
  have tr1 : -9223372036854775808 ≤ toI y := by have := tr.2; omega
  have tr2 : toI y ≤ 9223372036854775807 := by have := tr.2; omega
  clear h0 h1 h2 h hb tr
  go_enter Try.func81, Try.ntmps81
  go_wp2_with (refine wpList_fsim rfl _ _ _ _ _ rfl rfl .f64 _ _ rfl rfl (by first | with_reducible assumption | exact Sim.refl _ _) (by first | with_reducible assumption | exact Sim.refl _ _) ?_; intro r n hr hb; have ht := order_congr hr (Sim.refl .f64 4598175219545276416); have ht0 := order_congr hr (Sim.refl .f64 0); have ht1 := order_congr hr (Sim.refl .f64 4602678819172646912))
  go_loopw [7, 8] (fun p k wr => ∃ (i q n : Nat) (c : Int), i ≤ 8 ∧ k = .int .i64 c ∧ Hid (c = 8 - (i : Int)) ∧ p = .float .f64 q ∧ Sim .f64 q (polyF (fop .mul .f64 (fop .mul .f64 (fop .sub .f64 half (fop .sub .f64 y (floatOfInt .f64 (toI y)))) twoPi) (fop .mul .f64 (fop .sub .f64 half (fop .sub .f64 y (floatOfInt .f64 (toI y)))) twoPi)) i) ∧ wr = w.drewN n) (fun _ k _ => (intOf k).toNat)
  case atStart => exact ⟨0, one, _, 8, by omega, rfl, hid rfl, rfl, Sim.refl _ _, rfl⟩
  case round =>
    obtain ⟨i, q, n, c, hi, rfl, hcc, rfl, hq, rfl⟩ := hrel
    by_cases hlt : i < 8
    · have hc1 : 1 ≤ c := by have := hcc.out; omega
      have hc2 : c ≤ 8 := by have := hcc.out; omega
      have hw : IntKind.i64.wrap (2 * c * (2 * c + 1)) = 2 * c * (2 * c + 1) := prod_wrap c hc1 hc2
      have HI := hid (cK_int i c hlt hcc.out)
      go_wp2_with (refine wpList_fsim rfl _ _ _ _ _ rfl rfl .f64 _ _ rfl rfl (by first | with_reducible assumption | exact Sim.refl _ _) (by first | with_reducible assumption | exact Sim.refl _ _) ?_; intro r n hr hb)
      go_roundw
      case rel => exact ⟨i + 1, _, _, c - 1, by omega, rfl, hid (by have := hcc.out; omega), rfl, by show Sim _ _ (fop .sub .f64 one (fop .quo .f64 (fop .mul .f64 (fop .mul .f64 (fop .mul .f64 (fop .sub .f64 half (fop .sub .f64 y (floatOfInt .f64 (toI y)))) twoPi) (fop .mul .f64 (fop .sub .f64 half (fop .sub .f64 y (floatOfInt .f64 (toI y)))) twoPi)) (polyF (fop .mul .f64 (fop .mul .f64 (fop .sub .f64 half (fop .sub .f64 y (floatOfInt .f64 (toI y)))) twoPi) (fop .mul .f64 (fop .sub .f64 half (fop .sub .f64 y (floatOfInt .f64 (toI y)))) twoPi)) i)) (cK i))); rw [← HI.out]; with_reducible assumption, rfl⟩
      case measure => simp [intOf]; omega
    · obtain rfl : i = 8 := by omega
      obtain rfl : c = 0 := by have := hcc.out; omega
      go_wp2_with (refine wpList_fsim rfl _ _ _ _ _ rfl rfl .f64 _ _ rfl rfl (by first | with_reducible assumption | exact Sim.refl _ _) (by first | with_reducible assumption | exact Sim.refl _ _) ?_; intro r n hr hb)
      go_ret
      exact ⟨_, _, rfl, rfl, by rw [e3.out]; unfold res Z; rw [e2.out, e1.out, e0.out]; with_reducible assumption, hb⟩
set_option maxHeartbeats 1000000 in
theorem spW010 (y : Nat) (w : World) (h : FinW Ieee.double y) (hb : mv Ieee.double (rung Ieee.double y) < 2 ^ 52 * 2 ^ un) (h0 : (FloatKind.f64.format.order (frac0 y) 0 == some .lt) = false) (h1 : ge (fracF y) half = true) (h2 : gt (E1 y) quarter = false) : Calls Try.prog 81 #[.float .f64 y] w (RetF .f64 (sineF y) w) := by
  have hneg := neg64
  have hc : ∀ w, (convert 25 2 (.float .f64 y)).run Try.prog w = .ok (.int .i64 (toI y)) w := fun w => run_convert_float_int w 25 2 .f64 .i64 y (toI y) u25 Try.underlying2 (toI_val h hb).1
  have e0 := hid (show fracF y = fop .sub .f64 y (floatOfInt .f64 (toI y)) from by unfold fracF; rw [h0]; rfl)
  have e1 := hid (E1_t h1)
  have e3 := hid (sineF_t h1)
  have e2 := hid (E2_f h2)
  rw [e1.out, e0.out] at h2
  rw [e0.out] at h1
  have t0 : (FloatKind.f64.format.order (fop .sub .f64 y y) 0 != some .eq) = false := fin_neq h
  have t3 : (FloatKind.f64.format.order y 4841369599423283200 == some .gt || FloatKind.f64.format.order y 4841369599423283200 == some .eq) = false := lt52 h hb
  have t4 : (FloatKind.f64.format.order y 14064741636278059008 == some .lt || FloatKind.f64.format.order y 14064741636278059008 == some .eq) = false := gtm52 h hb
  have t5 : (FloatKind.f64.format.order (fop .sub .f64 y (floatOfInt .f64 (toI y))) 0 == some .lt) = false := h0
  have t1 : (FloatKind.f64.format.order (fop .sub .f64 y (floatOfInt .f64 (toI y))) 4602678819172646912 == some .gt || FloatKind.f64.format.order (fop .sub .f64 y (floatOfInt .f64 (toI y))) 4602678819172646912 == some .eq) = true := h1
  have t2 : (FloatKind.f64.format.order (fop .sub .f64 (fop .sub .f64 y (floatOfInt .f64 (toI y))) half) 4598175219545276416 == some .gt) = false := h2
  have tr := toI_val h hb
  have tr1 : -9223372036854775808 ≤ toI y := by have := tr.2; omega
  have tr2 : toI y ≤ 9223372036854775807 := by have := tr.2; omega
  clear h0 h1 h2 h hb tr
  go_enter Try.func81, Try.ntmps81
  go_wp2_with (refine wpList_fsim rfl _ _ _ _ _ rfl rfl .f64 _ _ rfl rfl (by first | with_reducible assumption | exact Sim.refl _ _) (by first | with_reducible assumption | exact Sim.refl _ _) ?_; intro r n hr hb; have ht := order_congr hr (Sim.refl .f64 4598175219545276416); have ht0 := order_congr hr (Sim.refl .f64 0); have ht1 := order_congr hr (Sim.refl .f64 4602678819172646912))
  go_loopw [7, 8] (fun p k wr => ∃ (i q n : Nat) (c : Int), i ≤ 8 ∧ k = .int .i64 c ∧ Hid (c = 8 - (i : Int)) ∧ p = .float .f64 q ∧ Sim .f64 q (polyF (fop .mul .f64 (fop .mul .f64 (fop .sub .f64 (fop .sub .f64 y (floatOfInt .f64 (toI y))) half) twoPi) (fop .mul .f64 (fop .sub .f64 (fop .sub .f64 y (floatOfInt .f64 (toI y))) half) twoPi)) i) ∧ wr = w.drewN n) (fun _ k _ => (intOf k).toNat)
  case atStart => exact ⟨0, one, _, 8, by omega, rfl, hid rfl, rfl, Sim.refl _ _, rfl⟩
  case round =>
    obtain ⟨i, q, n, c, hi, rfl, hcc, rfl, hq, rfl⟩ := hrel
    by_cases hlt : i < 8
    · have hc1 : 1 ≤ c := by have := hcc.out; omega
      have hc2 : c ≤ 8 := by have := hcc.out; omega
      have hw : IntKind.i64.wrap (2 * c * (2 * c + 1)) = 2 * c * (2 * c + 1) := prod_wrap c hc1 hc2
      have HI := hid (cK_int i c hlt hcc.out)
      go_wp2_with (refine wpList_fsim rfl _ _ _ _ _ rfl rfl .f64 _ _ rfl rfl (by first | with_reducible assumption | exact Sim.refl _ _) (by first | with_reducible assumption | exact Sim.refl _ _) ?_; intro r n hr hb)
      go_roundw
      case rel => exact ⟨i + 1, _, _, c - 1, by omega, rfl, hid (by have := hcc.out; omega), rfl, by show Sim _ _ (fop .sub .f64 one (fop .quo .f64 (fop .mul .f64 (fop .mul .f64 (fop .mul .f64 (fop .sub .f64 (fop .sub .f64 y (floatOfInt .f64 (toI y))) half) twoPi) (fop .mul .f64 (fop .sub .f64 (fop .sub .f64 y (floatOfInt .f64 (toI y))) half) twoPi)) (polyF (fop .mul .f64 (fop .mul .f64 (fop .sub .f64 (fop .sub .f64 y (floatOfInt .f64 (toI y))) half) twoPi) (fop .mul .f64 (fop .sub .f64 (fop .sub .f64 y (floatOfInt .f64 (toI y))) half) twoPi)) i)) (cK i))); rw [← HI.out]; with_reducible assumption, rfl⟩
      case measure => simp [intOf]; omega
    · obtain rfl : i = 8 := by omega
      obtain rfl : c = 0 := by have := hcc.out; omega
      go_wp2_with (refine wpList_fsim rfl _ _ _ _ _ rfl rfl .f64 _ _ rfl rfl (by first | with_reducible assumption | exact Sim.refl _ _) (by first | with_reducible assumption | exact Sim.refl _ _) ?_; intro r n hr hb)
      go_ret
      exact ⟨_, _, rfl, rfl, by rw [e3.out]; refine sim_neg hb (fits_fop ..) ?_; unfold res Z; rw [e2.out, e1.out, e0.out]; with_reducible assumption, fits_neg hb⟩
set_option maxHeartbeats 1000000 in
theorem spW011 (y : Nat) (w : World) (h : FinW Ieee.double y) (hb : mv Ieee.double (rung Ieee.double y) < 2 ^ 52 * 2 ^ un) (h0 : (FloatKind.f64.format.order (frac0 y) 0 == some .lt) = false) (h1 : ge (fracF y) half = true) (h2 : gt (E1 y) quarter = true) : Calls Try.prog 81 #[.float .f64 y] w (RetF .f64 (sineF y) w) := by
  have hneg := neg64
  have hc : ∀ w, (convert 25 2 (.float .f64 y)).run Try.prog w = .ok (.int .i64 (toI y)) w := fun w => run_convert_float_int w 25 2 .f64 .i64 y (toI y) u25 Try.underlying2 (toI_val h hb).1
  have e0 := hid (show fracF y = fop .sub .f64 y (floatOfInt .f64 (toI y)) from by unfold fracF; rw [h0]; rfl)
  have e1 := hid (E1_t h1)
  have e3 := hid (sineF_t h1)
  have e2 := hid (E2_t h2)
  rw [e1.out, e0.out] at h2
  rw [e0.out] at h1
  have t0 : (FloatKind.f64.format.order (fop .sub .f64 y y) 0 != some .eq) = false := fin_neq h
  have t3 : (FloatKind.f64.format.order y 4841369599423283200 == some .gt || FloatKind.f64.format.order y 4841369599423283200 == some .eq) = false := lt52 h hb
  have t4 : (FloatKind.f64.format.order y 14064741636278059008 == some .lt || FloatKind.f64.format.order y 14064741636278059008 == some .eq) = false := gtm52 h hb
  have t5 : (FloatKind.f64.format.order (fop .sub .f64 y (floatOfInt .f64 (toI y))) 0 == some .lt) = false := h0
  have t1 : (FloatKind.f64.format.order (fop .sub .f64 y (floatOfInt .f64 (toI y))) 4602678819172646912 == some .gt || FloatKind.f64.format.order (fop .sub .f64 y (floatOfInt .f64 (toI y))) 4602678819172646912 == some .eq) = true := h1
  have t2 : (FloatKind.f64.format.order (fop .sub .f64 (fop .sub .f64 y (floatOfInt .f64 (toI y))) half) 4598175219545276416 == some .gt) = true := h2
  have tr := toI_val h hb
  have tr1 : -9223372036854775808 ≤ toI y := by have := tr.2; omega
  have tr2 : toI y ≤ 9223372036854775807 := by have := tr.2; omega
  clear h0 h1 h2 h hb tr
  go_enter Try.func81, Try.ntmps81
  go_wp2_with (refine wpList_fsim rfl _ _ _ _ _ rfl rfl .f64 _ _ rfl rfl (by first | with_reducible assumption | exact Sim.refl _ _) (by first | with_reducible assumption | exact Sim.refl _ _) ?_; intro r n hr hb; have ht := order_congr hr (Sim.refl .f64 4598175219545276416); have ht0 := order_congr hr (Sim.refl .f64 0); have ht1 := order_congr hr (Sim.refl .f64 4602678819172646912))
  go_loopw [7, 8] (fun p k wr => ∃ (i q n : Nat) (c : Int), i ≤ 8 ∧ k = .int .i64 c ∧ Hid (c = 8 - (i : Int)) ∧ p = .float .f64 q ∧ Sim .f64 q (polyF (fop .mul .f64 (fop .mul .f64 (fop .sub .f64 half (fop .sub .f64 (fop .sub .f64 y (floatOfInt .f64 (toI y))) half)) twoPi) (fop .mul .f64 (fop .sub .f64 half (fop .sub .f64 (fop .sub .f64 y (floatOfInt .f64 (toI y))) half)) twoPi)) i) ∧ wr = w.drewN n) (fun _ k _ => (intOf k).toNat)
  case atStart => exact ⟨0, one, _, 8, by omega, rfl, hid rfl, rfl, Sim.refl _ _, rfl⟩
  case round =>
    obtain ⟨i, q, n, c, hi, rfl, hcc, rfl, hq, rfl⟩ := hrel
    by_cases hlt : i < 8
    · have hc1 : 1 ≤ c := by have := hcc.out; omega
      have hc2 : c ≤ 8 := by have := hcc.out; omega
      have hw : IntKind.i64.wrap (2 * c * (2 * c + 1)) = 2 * c * (2 * c + 1) := prod_wrap c hc1 hc2
      have HI := hid (cK_int i c hlt hcc.out)
      go_wp2_with (refine wpList_fsim rfl _ _ _ _ _ rfl rfl .f64 _ _ rfl rfl (by first | with_reducible assumption | exact Sim.refl _ _) (by first | with_reducible assumption | exact Sim.refl _ _) ?_; intro r n hr hb)
      go_roundw
      case rel => exact ⟨i + 1, _, _, c - 1, by omega, rfl, hid (by have := hcc.out; omega), rfl, by show Sim _ _ (fop .sub .f64 one (fop .quo .f64 (fop .mul .f64 (fop .mul .f64 (fop .mul .f64 (fop .sub .f64 half (fop .sub .f64 (fop .sub .f64 y (floatOfInt .f64 (toI y))) half)) twoPi) (fop .mul .f64 (fop .sub .f64 half (fop .sub .f64 (fop .sub .f64 y (floatOfInt .f64 (toI y))) half)) twoPi)) (polyF (fop .mul .f64 (fop .mul .f64 (fop .sub .f64 half (fop .sub .f64 (fop .sub .f64 y (floatOfInt .f64 (toI y))) half)) twoPi) (fop .mul .f64 (fop .sub .f64 half (fop .sub .f64 (fop .sub .f64 y (floatOfInt .f64 (toI y))) half)) twoPi)) i)) (cK i))); rw [← HI.out]; with_reducible assumption, rfl⟩
      case measure => simp [intOf]; omega
    · obtain rfl : i = 8 := by omega
      obtain rfl : c = 0 := by have := hcc.out; omega
      go_wp2_with (refine wpList_fsim rfl _ _ _ _ _ rfl rfl .f64 _ _ rfl rfl (by first | with_reducible assumption | exact Sim.refl _ _) (by first | with_reducible assumption | exact Sim.refl _ _) ?_; intro r n hr hb)
      go_ret
      exact ⟨_, _, rfl, rfl, by rw [e3.out]; refine sim_neg hb (fits_fop ..) ?_; unfold res Z; rw [e2.out, e1.out, e0.out]; with_reducible assumption, fits_neg hb⟩
set_option maxHeartbeats 1000000 in
theorem spW100 (y : Nat) (w : World) (h : FinW Ieee.double y) (hb : mv Ieee.double (rung Ieee.double y) < 2 ^ 52 * 2 ^ un) (h0 : (FloatKind.f64.format.order (frac0 y) 0 == some .lt) = true) (h1 : ge (fracF y) half = false) (h2 : gt (E1 y) quarter = false) : Calls Try.prog 81 #[.float .f64 y] w (RetF .f64 (sineF y) w) := by
  have hneg := neg64
  have hc : ∀ w, (convert 25 2 (.float .f64 y)).run Try.prog w = .ok (.int .i64 (toI y)) w := fun w => run_convert_float_int w 25 2 .f64 .i64 y (toI y) u25 Try.underlying2 (toI_val h hb).1
  have e0 := hid (show fracF y = fop .add .f64 (fop .sub .f64 y (floatOfInt .f64 (toI y))) one from by unfold fracF; rw [h0]; rfl)
  have e1 := hid (E1_f h1)
  have e3 := hid (sineF_f h1)
  have e2 := hid (E2_f h2)
  rw [e1.out, e0.out] at h2
  rw [e0.out] at h1
  have t0 : (FloatKind.f64.format.order (fop .sub .f64 y y) 0 != some .eq) = false := fin_neq h
  have t3 : (FloatKind.f64.format.order y 4841369599423283200 == some .gt || FloatKind.f64.format.order y 4841369599423283200 == some .eq) = false := lt52 h hb
  have t4 : (FloatKind.f64.format.order y 14064741636278059008 == some .lt || FloatKind.f64.format.order y 14064741636278059008 == some .eq) = false := gtm52 h hb
  have t5 : (FloatKind.f64.format.order (fop .sub .f64 y (floatOfInt .f64 (toI y))) 0 == some .lt) = true := h0
  have t1 : (FloatKind.f64.format.order (fop .add .f64 (fop .sub .f64 y (floatOfInt .f64 (toI y))) one) 4602678819172646912 == some .gt || FloatKind.f64.format.order (fop .add .f64 (fop .sub .f64 y (floatOfInt .f64 (toI y))) one) 4602678819172646912 == some .eq) = false := h1
  have t2 : (FloatKind.f64.format.order (fop .add .f64 (fop .sub .f64 y (floatOfInt .f64 (toI y))) one) 4598175219545276416 == some .gt) = false := h2
  have tr := toI_val h hb
  have tr1 : -9223372036854775808 ≤ toI y := by have := tr.2; omega
  have tr2 : toI y ≤ 9223372036854775807 := by have := tr.2; omega
  clear h0 h1 h2 h hb tr
  go_enter Try.func81, Try.ntmps81
  go_wp2_with (refine wpList_fsim rfl _ _ _ _ _ rfl rfl .f64 _ _ rfl rfl (by first | with_reducible assumption | exact Sim.refl _ _) (by first | with_reducible assumption | exact Sim.refl _ _) ?_; intro r n hr hb; have ht := order_congr hr (Sim.refl .f64 4598175219545276416); have ht0 := order_congr hr (Sim.refl .f64 0); have ht1 := order_congr hr (Sim.refl .f64 4602678819172646912))
  go_loopw [7, 8] (fun p k wr => ∃ (i q n : Nat) (c : Int), i ≤ 8 ∧ k = .int .i64 c ∧ Hid (c = 8 - (i : Int)) ∧ p = .float .f64 q ∧ Sim .f64 q (polyF (fop .mul .f64 (fop .mul .f64 (fop .add .f64 (fop .sub .f64 y (floatOfInt .f64 (toI y))) one) twoPi) (fop .mul .f64 (fop .add .f64 (fop .sub .f64 y (floatOfInt .f64 (toI y))) one) twoPi)) i) ∧ wr = w.drewN n) (fun _ k _ => (intOf k).toNat)
  case atStart => exact ⟨0, one, _, 8, by omega, rfl, hid rfl, rfl, Sim.refl _ _, rfl⟩
  case round =>
    obtain ⟨i, q, n, c, hi, rfl, hcc, rfl, hq, rfl⟩ := hrel
    by_cases hlt : i < 8
    · have hc1 : 1 ≤ c := by have := hcc.out; omega
      have hc2 : c ≤ 8 := by have := hcc.out; omega
      have hw : IntKind.i64.wrap (2 * c * (2 * c + 1)) = 2 * c * (2 * c + 1) := prod_wrap c hc1 hc2
      have HI := hid (cK_int i c hlt hcc.out)
      go_wp2_with (refine wpList_fsim rfl _ _ _ _ _ rfl rfl .f64 _ _ rfl rfl (by first | with_reducible assumption | exact Sim.refl _ _) (by first | with_reducible assumption | exact Sim.refl _ _) ?_; intro r n hr hb)
      go_roundw
      case rel => exact ⟨i + 1, _, _, c - 1, by omega, rfl, hid (by have := hcc.out; omega), rfl, by show Sim _ _ (fop .sub .f64 one (fop .quo .f64 (fop .mul .f64 (fop .mul .f64 (fop .mul .f64 (fop .add .f64 (fop .sub .f64 y (floatOfInt .f64 (toI y))) one) twoPi) (fop .mul .f64 (fop .add .f64 (fop .sub .f64 y (floatOfInt .f64 (toI y))) one) twoPi)) (polyF (fop .mul .f64 (fop .mul .f64 (fop .add .f64 (fop .sub .f64 y (floatOfInt .f64 (toI y))) one) twoPi) (fop .mul .f64 (fop .add .f64 (fop .sub .f64 y (floatOfInt .f64 (toI y))) one) twoPi)) i)) (cK i))); rw [← HI.out]; with_reducible assumption, rfl⟩
      case measure => simp [intOf]; omega
    · obtain rfl : i = 8 := by omega
      obtain rfl : c = 0 := by have := hcc.out; omega
      go_wp2_with (refine wpList_fsim rfl _ _ _ _ _ rfl rfl .f64 _ _ rfl rfl (by first | with_reducible assumption | exact Sim.refl _ _) (by first | with_reducible assumption | exact Sim.refl _ _) ?_; intro r n hr hb)
      go_ret
      exact ⟨_, _, rfl, rfl, by rw [e3.out]; unfold res Z; rw [e2.out, e1.out, e0.out]; with_reducible assumption, hb⟩
set_option maxHeartbeats 1000000 in
theorem spW101 (y : Nat) (w : World) (h : FinW Ieee.double y) (hb : mv Ieee.double (rung Ieee.double y) < 2 ^ 52 * 2 ^ un) (h0 : (FloatKind.f64.format.order (frac0 y) 0 == some .lt) = true) (h1 : ge (fracF y) half = false) (h2 : gt (E1 y) quarter = true) : Calls Try.prog 81 #[.float .f64 y] w (RetF .f64 (sineF y) w) := by
  have hneg := neg64
  have hc : ∀ w, (convert 25 2 (.float .f64 y)).run Try.prog w = .ok (.int .i64 (toI y)) w := fun w => run_convert_float_int w 25 2 .f64 .i64 y (toI y) u25 Try.underlying2 (toI_val h hb).1
  have e0 := hid (show fracF y = fop .add .f64 (fop .sub .f64 y (floatOfInt .f64 (toI y))) one from by unfold fracF; rw [h0]; rfl)
  have e1 := hid (E1_f h1)
  have e3 := hid (sineF_f h1)
  have e2 := hid (E2_t h2)
  rw [e1.out, e0.out] at h2
  rw [e0.out] at h1
  have t0 : (FloatKind.f64.format.order (fop .sub .f64 y y) 0 != some .eq) = false := fin_neq h
  have t3 : (FloatKind.f64.format.order y 4841369599423283200 == some .gt || FloatKind.f64.format.order y 4841369599423283200 == some .eq) = false := lt52 h hb
  have t4 : (FloatKind.f64.format.order y 14064741636278059008 == some .lt || FloatKind.f64.format.order y 14064741636278059008 == some .eq) = false := gtm52 h hb
  have t5 : (FloatKind.f64.format.order (fop .sub .f64 y (floatOfInt .f64 (toI y))) 0 == some .lt) = true := h0
  have t1 : (FloatKind.f64.format.order (fop .add .f64 (fop .sub .f64 y (floatOfInt .f64 (toI y))) one) 4602678819172646912 == some .gt || FloatKind.f64.format.order (fop .add .f64 (fop .sub .f64 y (floatOfInt .f64 (toI y))) one) 4602678819172646912 == some .eq) = false := h1
  have t2 : (FloatKind.f64.format.order (fop .add .f64 (fop .sub .f64 y (floatOfInt .f64 (toI y))) one) 4598175219545276416 == some .gt) = true := h2
  have tr := toI_val h hb
  have tr1 : -9223372036854775808 ≤ toI y := by have := tr.2; omega
  have tr2 : toI y ≤ 9223372036854775807 := by have := tr.2; omega
  clear h0 h1 h2 h hb tr
  go_enter Try.func81, Try.ntmps81
  go_wp2_with (refine wpList_fsim rfl _ _ _ _ _ rfl rfl .f64 _ _ rfl rfl (by first | with_reducible assumption | exact Sim.refl _ _) (by first | with_reducible assumption | exact Sim.refl _ _) ?_; intro r n hr hb; have ht := order_congr hr (Sim.refl .f64 4598175219545276416); have ht0 := order_congr hr (Sim.refl .f64 0); have ht1 := order_congr hr (Sim.refl .f64 4602678819172646912))
  go_loopw [7, 8] (fun p k wr => ∃ (i q n : Nat) (c : Int), i ≤ 8 ∧ k = .int .i64 c ∧ Hid (c = 8 - (i : Int)) ∧ p = .float .f64 q ∧ Sim .f64 q (polyF (fop .mul .f64 (fop .mul .f64 (fop .sub .f64 half (fop .add .f64 (fop .sub .f64 y (floatOfInt .f64 (toI y))) one)) twoPi) (fop .mul .f64 (fop .sub .f64 half (fop .add .f64 (fop .sub .f64 y (floatOfInt .f64 (toI y))) one)) twoPi)) i) ∧ wr = w.drewN n) (fun _ k _ => (intOf k).toNat)
  case atStart => exact ⟨0, one, _, 8, by omega, rfl, hid rfl, rfl, Sim.refl _ _, rfl⟩
  case round =>
    obtain ⟨i, q, n, c, hi, rfl, hcc, rfl, hq, rfl⟩ := hrel
    by_cases hlt : i < 8
    · have hc1 : 1 ≤ c := by have := hcc.out; omega
      have hc2 : c ≤ 8 := by have := hcc.out; omega
      have hw : IntKind.i64.wrap (2 * c * (2 * c + 1)) = 2 * c * (2 * c + 1) := prod_wrap c hc1 hc2
      have HI := hid (cK_int i c hlt hcc.out)
      go_wp2_with (refine wpList_fsim rfl _ _ _ _ _ rfl rfl .f64 _ _ rfl rfl (by first | with_reducible assumption | exact Sim.refl _ _) (by first | with_reducible assumption | exact Sim.refl _ _) ?_; intro r n hr hb)
      go_roundw
      case rel => exact ⟨i + 1, _, _, c - 1, by omega, rfl, hid (by have := hcc.out; omega), rfl, by show Sim _ _ (fop .sub .f64 one (fop .quo .f64 (fop .mul .f64 (fop .mul .f64 (fop .mul .f64 (fop .sub .f64 half (fop .add .f64 (fop .sub .f64 y (floatOfInt .f64 (toI y))) one)) twoPi) (fop .mul .f64 (fop .sub .f64 half (fop .add .f64 (fop .sub .f64 y (floatOfInt .f64 (toI y))) one)) twoPi)) (polyF (fop .mul .f64 (fop .mul .f64 (fop .sub .f64 half (fop .add .f64 (fop .sub .f64 y (floatOfInt .f64 (toI y))) one)) twoPi) (fop .mul .f64 (fop .sub .f64 half (fop .add .f64 (fop .sub .f64 y (floatOfInt .f64 (toI y))) one)) twoPi)) i)) (cK i))); rw [← HI.out]; with_reducible assumption, rfl⟩
      case measure => simp [intOf]; omega
    · obtain rfl : i = 8 := by omega
      obtain rfl : c = 0 := by have := hcc.out; omega
      go_wp2_with (refine wpList_fsim rfl _ _ _ _ _ rfl rfl .f64 _ _ rfl rfl (by first | with_reducible assumption | exact Sim.refl _ _) (by first | with_reducible assumption | exact Sim.refl _ _) ?_; intro r n hr hb)
      go_ret
      exact ⟨_, _, rfl, rfl, by rw [e3.out]; unfold res Z; rw [e2.out, e1.out, e0.out]; with_reducible assumption, hb⟩
set_option maxHeartbeats 1000000 in
theorem spW110 (y : Nat) (w : World) (h : FinW Ieee.double y) (hb : mv Ieee.double (rung Ieee.double y) < 2 ^ 52 * 2 ^ un) (h0 : (FloatKind.f64.format.order (frac0 y) 0 == some .lt) = true) (h1 : ge (fracF y) half = true) (h2 : gt (E1 y) quarter = false) : Calls Try.prog 81 #[.float .f64 y] w (RetF .f64 (sineF y) w) := by
  have hneg := neg64
  have hc : ∀ w, (convert 25 2 (.float .f64 y)).run Try.prog w = .ok (.int .i64 (toI y)) w := fun w => run_convert_float_int w 25 2 .f64 .i64 y (toI y) u25 Try.underlying2 (toI_val h hb).1
  have e0 := hid (show fracF y = fop .add .f64 (fop .sub .f64 y (floatOfInt .f64 (toI y))) one from by unfold fracF; rw [h0]; rfl)
  have e1 := hid (E1_t h1)
  have e3 := hid (sineF_t h1)
  have e2 := hid (E2_f h2)
  rw [e1.out, e0.out] at h2
  rw [e0.out] at h1
  have t0 : (FloatKind.f64.format.order (fop .sub .f64 y y) 0 != some .eq) = false := fin_neq h
  have t3 : (FloatKind.f64.format.order y 4841369599423283200 == some .gt || FloatKind.f64.format.order y 4841369599423283200 == some .eq) = false := lt52 h hb
  have t4 : (FloatKind.f64.format.order y 14064741636278059008 == some .lt || FloatKind.f64.format.order y 14064741636278059008 == some .eq) = false := gtm52 h hb
  have t5 : (FloatKind.f64.format.order (fop .sub .f64 y (floatOfInt .f64 (toI y))) 0 == some .lt) = true := h0
  have t1 : (FloatKind.f64.format.order (fop .add .f64 (fop .sub .f64 y (floatOfInt .f64 (toI y))) one) 4602678819172646912 == some .gt || FloatKind.f64.format.order (fop .add .f64 (fop .sub .f64 y (floatOfInt .f64 (toI y))) one) 4602678819172646912 == some .eq) = true := h1
  have t2 : (FloatKind.f64.format.order (fop .sub .f64 (fop .add .f64 (fop .sub .f64 y (floatOfInt .f64 (toI y))) one) half) 4598175219545276416 == some .gt) = false := h2
  have tr := toI_val h hb
  have tr1 : -9223372036854775808 ≤ toI y := by have := tr.2; omega
  have tr2 : toI y ≤ 9223372036854775807 := by have := tr.2; omega
  clear h0 h1 h2 h hb tr
  go_enter Try.func81, Try.ntmps81
  go_wp2_with (refine wpList_fsim rfl _ _ _ _ _ rfl rfl .f64 _ _ rfl rfl (by first | with_reducible assumption | exact Sim.refl _ _) (by first | with_reducible assumption | exact Sim.refl _ _) ?_; intro r n hr hb; have ht := order_congr hr (Sim.refl .f64 4598175219545276416); have ht0 := order_congr hr (Sim.refl .f64 0); have ht1 := order_congr hr (Sim.refl .f64 4602678819172646912))
  go_loopw [7, 8] (fun p k wr => ∃ (i q n : Nat) (c : Int), i ≤ 8 ∧ k = .int .i64 c ∧ Hid (c = 8 - (i : Int)) ∧ p = .float .f64 q ∧ Sim .f64 q (polyF (fop .mul .f64 (fop .mul .f64 (fop .sub .f64 (fop .add .f64 (fop .sub .f64 y (floatOfInt .f64 (toI y))) one) half) twoPi) (fop .mul .f64 (fop .sub .f64 (fop .add .f64 (fop .sub .f64 y (floatOfInt .f64 (toI y))) one) half) twoPi)) i) ∧ wr = w.drewN n) (fun _ k _ => (intOf k).toNat)
  case atStart => exact ⟨0, one, _, 8, by omega, rfl, hid rfl, rfl, Sim.refl _ _, rfl⟩
  case round =>
    obtain ⟨i, q, n, c, hi, rfl, hcc, rfl, hq, rfl⟩ := hrel
    by_cases hlt : i < 8
    · have hc1 : 1 ≤ c := by have := hcc.out; omega
      have hc2 : c ≤ 8 := by have := hcc.out; omega
      have hw : IntKind.i64.wrap (2 * c * (2 * c + 1)) = 2 * c * (2 * c + 1) := prod_wrap c hc1 hc2
      have HI := hid (cK_int i c hlt hcc.out)
      go_wp2_with (refine wpList_fsim rfl _ _ _ _ _ rfl rfl .f64 _ _ rfl rfl (by first | with_reducible assumption | exact Sim.refl _ _) (by first | with_reducible assumption | exact Sim.refl _ _) ?_; intro r n hr hb)
      go_roundw
      case rel => exact ⟨i + 1, _, _, c - 1, by omega, rfl, hid (by have := hcc.out; omega), rfl, by show Sim _ _ (fop .sub .f64 one (fop .quo .f64 (fop .mul .f64 (fop .mul .f64 (fop .mul .f64 (fop .sub .f64 (fop .add .f64 (fop .sub .f64 y (floatOfInt .f64 (toI y))) one) half) twoPi) (fop .mul .f64 (fop .sub .f64 (fop .add .f64 (fop .sub .f64 y (floatOfInt .f64 (toI y))) one) half) twoPi)) (polyF (fop .mul .f64 (fop .mul .f64 (fop .sub .f64 (fop .add .f64 (fop .sub .f64 y (floatOfInt .f64 (toI y))) one) half) twoPi) (fop .mul .f64 (fop .sub .f64 (fop .add .f64 (fop .sub .f64 y (floatOfInt .f64 (toI y))) one) half) twoPi)) i)) (cK i))); rw [← HI.out]; with_reducible assumption, rfl⟩
      case measure => simp [intOf]; omega
    · obtain rfl : i = 8 := by omega
      obtain rfl : c = 0 := by have := hcc.out; omega
      go_wp2_with (refine wpList_fsim rfl _ _ _ _ _ rfl rfl .f64 _ _ rfl rfl (by first | with_reducible assumption | exact Sim.refl _ _) (by first | with_reducible assumption | exact Sim.refl _ _) ?_; intro r n hr hb)
      go_ret
      exact ⟨_, _, rfl, rfl, by rw [e3.out]; refine sim_neg hb (fits_fop ..) ?_; unfold res Z; rw [e2.out, e1.out, e0.out]; with_reducible assumption, fits_neg hb⟩
set_option maxHeartbeats 1000000 in
theorem spW111 (y : Nat) (w : World) (h : FinW Ieee.double y) (hb : mv Ieee.double (rung Ieee.double y) < 2 ^ 52 * 2 ^ un) (h0 : (FloatKind.f64.format.order (frac0 y) 0 == some .lt) = true) (h1 : ge (fracF y) half = true) (h2 : gt (E1 y) quarter = true) : Calls Try.prog 81 #[.float .f64 y] w (RetF .f64 (sineF y) w) := by
  have hneg := neg64
  have hc : ∀ w, (convert 25 2 (.float .f64 y)).run Try.prog w = .ok (.int .i64 (toI y)) w := fun w => run_convert_float_int w 25 2 .f64 .i64 y (toI y) u25 Try.underlying2 (toI_val h hb).1
  have e0 := hid (show fracF y = fop .add .f64 (fop .sub .f64 y (floatOfInt .f64 (toI y))) one from by unfold fracF; rw [h0]; rfl)
  have e1 := hid (E1_t h1)
  have e3 := hid (sineF_t h1)
  have e2 := hid (E2_t h2)
  rw [e1.out, e0.out] at h2
  rw [e0.out] at h1
  have t0 : (FloatKind.f64.format.order (fop .sub .f64 y y) 0 != some .eq) = false := fin_neq h
  have t3 : (FloatKind.f64.format.order y 4841369599423283200 == some .gt || FloatKind.f64.format.order y 4841369599423283200 == some .eq) = false := lt52 h hb
  have t4 : (FloatKind.f64.format.order y 14064741636278059008 == some .lt || FloatKind.f64.format.order y 14064741636278059008 == some .eq) = false := gtm52 h hb
  have t5 : (FloatKind.f64.format.order (fop .sub .f64 y (floatOfInt .f64 (toI y))) 0 == some .lt) = true := h0
  have t1 : (FloatKind.f64.format.order (fop .add .f64 (fop .sub .f64 y (floatOfInt .f64 (toI y))) one) 4602678819172646912 == some .gt || FloatKind.f64.format.order (fop .add .f64 (fop .sub .f64 y (floatOfInt .f64 (toI y))) one) 4602678819172646912 == some .eq) = true := h1
  have t2 : (FloatKind.f64.format.order (fop .sub .f64 (fop .add .f64 (fop .sub .f64 y (floatOfInt .f64 (toI y))) one) half) 4598175219545276416 == some .gt) = true := h2
  have tr := toI_val h hb
  have tr1 : -9223372036854775808 ≤ toI y := by have := tr.2; omega
  have tr2 : toI y ≤ 9223372036854775807 := by have := tr.2; omega
  clear h0 h1 h2 h hb tr
  go_enter Try.func81, Try.ntmps81
  go_wp2_with (refine wpList_fsim rfl _ _ _ _ _ rfl rfl .f64 _ _ rfl rfl (by first | with_reducible assumption | exact Sim.refl _ _) (by first | with_reducible assumption | exact Sim.refl _ _) ?_; intro r n hr hb; have ht := order_congr hr (Sim.refl .f64 4598175219545276416); have ht0 := order_congr hr (Sim.refl .f64 0); have ht1 := order_congr hr (Sim.refl .f64 4602678819172646912))
  go_loopw [7, 8] (fun p k wr => ∃ (i q n : Nat) (c : Int), i ≤ 8 ∧ k = .int .i64 c ∧ Hid (c = 8 - (i : Int)) ∧ p = .float .f64 q ∧ Sim .f64 q (polyF (fop .mul .f64 (fop .mul .f64 (fop .sub .f64 half (fop .sub .f64 (fop .add .f64 (fop .sub .f64 y (floatOfInt .f64 (toI y))) one) half)) twoPi) (fop .mul .f64 (fop .sub .f64 half (fop .sub .f64 (fop .add .f64 (fop .sub .f64 y (floatOfInt .f64 (toI y))) one) half)) twoPi)) i) ∧ wr = w.drewN n) (fun _ k _ => (intOf k).toNat)
  case atStart => exact ⟨0, one, _, 8, by omega, rfl, hid rfl, rfl, Sim.refl _ _, rfl⟩
  case round =>
    obtain ⟨i, q, n, c, hi, rfl, hcc, rfl, hq, rfl⟩ := hrel
    by_cases hlt : i < 8
    · have hc1 : 1 ≤ c := by have := hcc.out; omega
      have hc2 : c ≤ 8 := by have := hcc.out; omega
      have hw : IntKind.i64.wrap (2 * c * (2 * c + 1)) = 2 * c * (2 * c + 1) := prod_wrap c hc1 hc2
      have HI := hid (cK_int i c hlt hcc.out)
      go_wp2_with (refine wpList_fsim rfl _ _ _ _ _ rfl rfl .f64 _ _ rfl rfl (by first | with_reducible assumption | exact Sim.refl _ _) (by first | with_reducible assumption | exact Sim.refl _ _) ?_; intro r n hr hb)
      go_roundw
      case rel => exact ⟨i + 1, _, _, c - 1, by omega, rfl, hid (by have := hcc.out; omega), rfl, by show Sim _ _ (fop .sub .f64 one (fop .quo .f64 (fop .mul .f64 (fop .mul .f64 (fop .mul .f64 (fop .sub .f64 half (fop .sub .f64 (fop .add .f64 (fop .sub .f64 y (floatOfInt .f64 (toI y))) one) half)) twoPi) (fop .mul .f64 (fop .sub .f64 half (fop .sub .f64 (fop .add .f64 (fop .sub .f64 y (floatOfInt .f64 (toI y))) one) half)) twoPi)) (polyF (fop .mul .f64 (fop .mul .f64 (fop .sub .f64 half (fop .sub .f64 (fop .add .f64 (fop .sub .f64 y (floatOfInt .f64 (toI y))) one) half)) twoPi) (fop .mul .f64 (fop .sub .f64 half (fop .sub .f64 (fop .add .f64 (fop .sub .f64 y (floatOfInt .f64 (toI y))) one) half)) twoPi)) i)) (cK i))); rw [← HI.out]; with_reducible assumption, rfl⟩
      case measure => simp [intOf]; omega
    · obtain rfl : i = 8 := by omega
      obtain rfl : c = 0 := by have := hcc.out; omega
      go_wp2_with (refine wpList_fsim rfl _ _ _ _ _ rfl rfl .f64 _ _ rfl rfl (by first | with_reducible assumption | exact Sim.refl _ _) (by first | with_reducible assumption | exact Sim.refl _ _) ?_; intro r n hr hb)
      go_ret
      exact ⟨_, _, rfl, rfl, by rw [e3.out]; refine sim_neg hb (fits_fop ..) ?_; unfold res Z; rw [e2.out, e1.out, e0.out]; with_reducible assumption, fits_neg hb⟩
theorem spSineW (y : Nat) (w : World) (h : FinW Ieee.double y) (hb : mv Ieee.double (rung Ieee.double y) < 2 ^ 52 * 2 ^ un) : Calls Try.prog 81 #[.float .f64 y] w (RetF .f64 (sineF y) w) := by
  cases h0 : (FloatKind.f64.format.order (frac0 y) 0 == some .lt) <;> cases h1 : ge (fracF y) half <;> cases h2 : gt (E1 y) quarter
  · exact spW000 y w h hb h0 h1 h2
  · exact spW001 y w h hb h0 h1 h2
  · exact spW010 y w h hb h0 h1 h2
  · exact spW011 y w h hb h0 h1 h2
  · exact spW100 y w h hb h0 h1 h2
  · exact spW101 y w h hb h0 h1 h2
  · exact spW110 y w h hb h0 h1 h2
  · exact spW111 y w h hb h0 h1 h2
end TryWalk
end Go.Proofs.Ytlabbakmlanfgaa
