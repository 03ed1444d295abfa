/- Walks of the phasor: the reference's. No condition. -/
import Derived.Test.YtlabbakmlanfgaaWph2
namespace Go.Proofs.Ytlabbakmlanfgaa
open Go.RowKit Flo Iee
set_option linter.unusedVariables false
namespace TryWalk
theorem fromQn (w : World) : Calls Try.prog 76 #[.int .i64 2143289344] w fun e w' => e = .returned (.float .f32 2143289344) ∧ w = w' := by
  have h1 := f32from
  go_enter Try.func76, Try.ntmps76
  go_wp2
  go_ret
  exact ⟨rfl, rfl⟩
theorem spPhNan (y : Nat) (w : World) (hf : fin .f64 y = false) : Calls Try.prog 64 #[.float .f64 y] w (RetC (phS y) w) := by
  have HE := hid (show phS y = (2143289344, 2143289344) by unfold phS; rw [hf]; rfl)
  have t0 := notfin_sub hf
  clear hf
  go_enter Try.func64, Try.ntmps64
  go_wp2_with (first | (go_at_call 76; refine (fromQn _).mono ?_; rintro e w' ⟨rfl, rfl⟩) | (refine wpList_fsim rfl _ _ _ _ _ rfl rfl .f64 _ _ rfl rfl (Sim.refl _ _) (Sim.refl _ _) ?_; intro r n hr hb; have ht0 := order_congr hr (Sim.refl .f64 0)))
  go_ret
  exact ⟨_, _, _, rfl, rfl, by rw [HE.out]; exact Sim.refl _ _, by rw [HE.out]; exact Sim.refl _ _, fits_of_wf (by decide), fits_of_wf (by decide)⟩
theorem spPhBig (y : Nat) (h : FinW Ieee.double y) (hb : big y = true) : ∀ w, Calls Try.prog 64 #[.float .f64 y] w (RetC (1065353216, 0) w) := by
  intro w
  have t0 := fin_neq (k := .f64) h
  have hb' := of_decide_eq_true hb
  have e1 := ge_fin (k := .f64) h sv52.1
  have e2 := le_fin (k := .f64) h svm52.1
  have ha := natAbs_sv Ieee.double y
  have h2 : sv FloatKind.f64.format 4841369599423283200 = _ := sv52.2
  have h3 : sv FloatKind.f64.format 14064741636278059008 = _ := svm52.2
  rw [h2] at e1
  rw [h3] at e2
  have e4 : FloatKind.f64.format = Ieee.double := rfl
  by_cases hs : 0 ≤ sv Ieee.double y
  · have t3 : (FloatKind.f64.format.order y 4841369599423283200 == some .gt || FloatKind.f64.format.order y 4841369599423283200 == some .eq) = true := by
      rw [e1]; apply decide_eq_true
      rw [e4]
      generalize 2 ^ 52 * 2 ^ un = T at *
      omega
    clear e1 e2 hb hb' ha h2 h3 e4 hs
    go_enter Try.func64, Try.ntmps64
    go_wp2_with (refine wpList_fsim rfl _ _ _ _ _ rfl rfl .f64 _ _ rfl rfl (Sim.refl _ _) (Sim.refl _ _) ?_; intro r n hr hb; have ht0 := order_congr hr (Sim.refl .f64 0))
    go_ret
    exact ⟨_, _, _, rfl, rfl, Sim.refl _ _, Sim.refl _ _, fits_of_wf (by decide), fits_of_wf (by decide)⟩
  · have t3 : (FloatKind.f64.format.order y 4841369599423283200 == some .gt || FloatKind.f64.format.order y 4841369599423283200 == some .eq) = false := by
      rw [e1]; apply decide_eq_false
      rw [e4]
      generalize 2 ^ 52 * 2 ^ un = T at *
      omega
    have t4 : (FloatKind.f64.format.order y 14064741636278059008 == some .lt || FloatKind.f64.format.order y 14064741636278059008 == some .eq) = true := by
      rw [e2]; apply decide_eq_true
      rw [e4]
      generalize 2 ^ 52 * 2 ^ un = T at *
      omega
    clear e1 e2 hb hb' ha h2 h3 e4 hs
    go_enter Try.func64, Try.ntmps64
    go_wp2_with (refine wpList_fsim rfl _ _ _ _ _ rfl rfl .f64 _ _ rfl rfl (Sim.refl _ _) (Sim.refl _ _) ?_; intro r n hr hb; have ht0 := order_congr hr (Sim.refl .f64 0))
    go_ret
    exact ⟨_, _, _, rfl, rfl, Sim.refl _ _, Sim.refl _ _, fits_of_wf (by decide), fits_of_wf (by decide)⟩
set_option maxHeartbeats 4000000 in
theorem spPh0 (y : Nat) (w : World) (h : FinW Ieee.double y) (hbig : big y = false) (h0 : (FloatKind.f64.format.order (frac0 y) 0 == some .lt) = false) : Calls Try.prog 64 #[.float .f64 y] w (RetC (phS y) w) := by
  have hb : mv Ieee.double (rung Ieee.double y) < 2 ^ 52 * 2 ^ un := by
    have := of_decide_eq_false hbig
    generalize 2 ^ 52 * 2 ^ un = T at *
    omega
  have hc : ∀ w, (convert 25 2 (.float .f64 y)).run Try.prog w = .ok (.int .i64 (toI y)) w := fun w => run_convert_float_int w 25 2 .f64 .i64 y (toI y) u25 Try.underlying2 (toI_val h hb).1
  have HE : Hid (phS y = (fconv .f64 (PF (fracF y)).1 .f32, fconv .f64 (PF (fracF y)).2 .f32)) := hid (by unfold phS; rw [fin_iff.2 (show FinW FloatKind.f64.format y from h), hbig]; rfl)
  have HB := hid (fracF_bd h hb)
  have HFF := hid (fracF_fits (y := y))
  have e0 : fracF y = fop .sub .f64 y (floatOfInt .f64 (toI y)) := by unfold fracF; rw [h0]; rfl
  rw [e0] at HE HB HFF
  have t0 : (FloatKind.f64.format.order (fop .sub .f64 y y) 0 != some .eq) = false := fin_neq h
  have t3 : (FloatKind.f64.format.order y 4841369599423283200 == some .gt || FloatKind.f64.format.order y 4841369599423283200 == some .eq) = false := lt52 h hb
  have t4 : (FloatKind.f64.format.order y 14064741636278059008 == some .lt || FloatKind.f64.format.order y 14064741636278059008 == some .eq) = false := gtm52 h hb
  have t5 : (FloatKind.f64.format.order (fop .sub .f64 y (floatOfInt .f64 (toI y))) 0 == some .lt) = false := h0
  have tr := toI_val h hb
  have tr1 : -9223372036854775808 ≤ toI y := by have := tr.2; omega
  have tr2 : toI y ≤ 9223372036854775807 := by have := tr.2; omega
  have HN := hid (bd_nan HB.out)
  clear h0 h hb tr e0 hbig
  go_enter Try.func64, Try.ntmps64
  go_wp2_with (refine wpList_fsim rfl _ _ _ _ _ rfl rfl .f64 _ _ rfl rfl (by first | with_reducible assumption | exact Sim.refl _ _) (by first | with_reducible assumption | exact Sim.refl _ _) ?_; intro r n hr hb; have ht0 := order_congr hr (Sim.refl .f64 0))
  obtain ⟨F, hF⟩ : ∃ F, fop .sub .f64 y (floatOfInt .f64 (toI y)) = F := ⟨_, rfl⟩
  rw [show fop .sub .f64 y (floatOfInt .f64 (toI y)) = F from hF] at HE HB HFF HN
  have hrF : Sim .f64 r F := by rw [← hF]; exact hr
  clear hF hr
  obtain rfl := sim_eq hrF HN.out
  clear hrF t5 ht0
  go_loopw [3, 4] (fun f q wr => ∃ (k n : Nat), k ≤ 8 ∧ f = .float .f64 (QF r k) ∧ q = .int .i64 k ∧ (∀ j, j < k → ge (QF r j) quarter = true) ∧ wr = w.drewN n) (fun _ q _ => 9 - (intOf q).toNat)
  case atStart => exact ⟨0, _, by omega, rfl, rfl, fun j hj => absurd hj (Nat.not_lt_zero _), rfl⟩
  case round =>
    obtain ⟨k, n, hk, rfl, rfl, hall, rfl⟩ := hrel
    have HBK := hid (QF_sv HB.out k hall).1
    have HFK := hid (qf_fits HFF.out k)
    cases hg : ge (QF r k) quarter
    · have HPF := hid (PF_end HB.out hall hg)
      have hlt : (FloatKind.f64.format.order (QF r k) 4598175219545276416 == some .gt || FloatKind.f64.format.order (QF r k) 4598175219545276416 == some .eq) = false := hg
      clear hall hg
      generalize QF r k = G at *
      have HS1 := hid (fun w => spSineW (fop .sub .f64 quarter G) w (bd_qg HBK.out).1 (bd_small (bd_qg HBK.out) (by omega)))
      have HS2 := hid (fun w => spSineW G w HBK.out.1 (bd_small HBK.out (by omega)))
      have HN1 := hid (bd_nan (bd_qg HBK.out))
      have HC1 := hid (qg_sine HBK.out)
      have HC2 := hid (g_sine HBK.out)
      rw [HPF.out] at HE
      rcases k_cases k with rfl | rfl | rfl | ⟨k1, k2, k3, k4, k5, k6⟩
      · have HQ : Hid (PQ G 1 = (fop .sub .f64 0 (sineF G), sineF (fop .sub .f64 quarter G))) := hid rfl
        rw [HQ.out] at HE
        have HO1 := hid (bd_over (bd_zsub HC2.out (by omega)) (by omega))
        have HO2 := hid (bd_over (HC1.out) (by omega))
        clear HQ
        go_wp2_with (first | (go_at_call 81; (with_reducible refine (HS2.out _).mono ?_); rintro e w' ⟨s, n, rfl, rfl, hs, hbs⟩) | (go_at_call 81; (with_reducible refine (HS1.out _).mono ?_); rintro e w' ⟨c, n, rfl, rfl, hc, hbc⟩) | (go_at_call 79; (first | refine (narrowW _ _ _ (by with_reducible assumption) (by with_reducible assumption) HO1.out).mono ?_ | refine (narrowW _ _ _ (by with_reducible assumption) (by with_reducible assumption) HO2.out).mono ?_); rintro e w' ⟨r, n, rfl, rfl, hr, hb⟩) | (refine wpList_fsim rfl _ _ _ _ _ rfl rfl .f64 _ _ rfl rfl (Sim.refl _ quarter) (Sim.refl _ G) ?_; intro d n hd hbd; obtain rfl := sim_eq hd HN1.out; clear hd) | (refine wpList_fsim rfl _ _ _ _ _ rfl rfl .f64 _ _ rfl rfl (Sim.refl _ 0) (by with_reducible assumption) ?_; intro d n hd hbd))
        go_ret
        exact ⟨_, _, _, rfl, rfl, by rw [HE.out]; with_reducible assumption, by rw [HE.out]; with_reducible assumption, by with_reducible assumption, by with_reducible assumption⟩
      · have HQ : Hid (PQ G 2 = (fop .sub .f64 0 (sineF (fop .sub .f64 quarter G)), fop .sub .f64 0 (sineF G))) := hid rfl
        rw [HQ.out] at HE
        have HO1 := hid (bd_over (bd_zsub HC1.out (by omega)) (by omega))
        have HO2 := hid (bd_over (bd_zsub HC2.out (by omega)) (by omega))
        clear HQ
        go_wp2_with (first | (go_at_call 81; (with_reducible refine (HS2.out _).mono ?_); rintro e w' ⟨s, n, rfl, rfl, hs, hbs⟩) | (go_at_call 81; (with_reducible refine (HS1.out _).mono ?_); rintro e w' ⟨c, n, rfl, rfl, hc, hbc⟩) | (go_at_call 79; (first | refine (narrowW _ _ _ (by with_reducible assumption) (by with_reducible assumption) HO1.out).mono ?_ | refine (narrowW _ _ _ (by with_reducible assumption) (by with_reducible assumption) HO2.out).mono ?_); rintro e w' ⟨r, n, rfl, rfl, hr, hb⟩) | (refine wpList_fsim rfl _ _ _ _ _ rfl rfl .f64 _ _ rfl rfl (Sim.refl _ quarter) (Sim.refl _ G) ?_; intro d n hd hbd; obtain rfl := sim_eq hd HN1.out; clear hd) | (refine wpList_fsim rfl _ _ _ _ _ rfl rfl .f64 _ _ rfl rfl (Sim.refl _ 0) (by with_reducible assumption) ?_; intro d n hd hbd))
        go_ret
        exact ⟨_, _, _, rfl, rfl, by rw [HE.out]; with_reducible assumption, by rw [HE.out]; with_reducible assumption, by with_reducible assumption, by with_reducible assumption⟩
      · have HQ : Hid (PQ G 3 = (sineF G, fop .sub .f64 0 (sineF (fop .sub .f64 quarter G)))) := hid rfl
        rw [HQ.out] at HE
        have HO1 := hid (bd_over (HC2.out) (by omega))
        have HO2 := hid (bd_over (bd_zsub HC1.out (by omega)) (by omega))
        clear HQ
        go_wp2_with (first | (go_at_call 81; (with_reducible refine (HS2.out _).mono ?_); rintro e w' ⟨s, n, rfl, rfl, hs, hbs⟩) | (go_at_call 81; (with_reducible refine (HS1.out _).mono ?_); rintro e w' ⟨c, n, rfl, rfl, hc, hbc⟩) | (go_at_call 79; (first | refine (narrowW _ _ _ (by with_reducible assumption) (by with_reducible assumption) HO1.out).mono ?_ | refine (narrowW _ _ _ (by with_reducible assumption) (by with_reducible assumption) HO2.out).mono ?_); rintro e w' ⟨r, n, rfl, rfl, hr, hb⟩) | (refine wpList_fsim rfl _ _ _ _ _ rfl rfl .f64 _ _ rfl rfl (Sim.refl _ quarter) (Sim.refl _ G) ?_; intro d n hd hbd; obtain rfl := sim_eq hd HN1.out; clear hd) | (refine wpList_fsim rfl _ _ _ _ _ rfl rfl .f64 _ _ rfl rfl (Sim.refl _ 0) (by with_reducible assumption) ?_; intro d n hd hbd))
        go_ret
        exact ⟨_, _, _, rfl, rfl, by rw [HE.out]; with_reducible assumption, by rw [HE.out]; with_reducible assumption, by with_reducible assumption, by with_reducible assumption⟩
      · have HQ : Hid (PQ G k = (sineF (fop .sub .f64 quarter G), sineF G)) := hid (by unfold PQ; rw [if_neg k4, if_neg k5, if_neg k6])
        rw [HQ.out] at HE
        have HO1 := hid (bd_over (HC1.out) (by omega))
        have HO2 := hid (bd_over (HC2.out) (by omega))
        clear HQ
        go_wp2_with (first | (go_at_call 81; (with_reducible refine (HS2.out _).mono ?_); rintro e w' ⟨s, n, rfl, rfl, hs, hbs⟩) | (go_at_call 81; (with_reducible refine (HS1.out _).mono ?_); rintro e w' ⟨c, n, rfl, rfl, hc, hbc⟩) | (go_at_call 79; (first | refine (narrowW _ _ _ (by with_reducible assumption) (by with_reducible assumption) HO1.out).mono ?_ | refine (narrowW _ _ _ (by with_reducible assumption) (by with_reducible assumption) HO2.out).mono ?_); rintro e w' ⟨r, n, rfl, rfl, hr, hb⟩) | (refine wpList_fsim rfl _ _ _ _ _ rfl rfl .f64 _ _ rfl rfl (Sim.refl _ quarter) (Sim.refl _ G) ?_; intro d n hd hbd; obtain rfl := sim_eq hd HN1.out; clear hd) | (refine wpList_fsim rfl _ _ _ _ _ rfl rfl .f64 _ _ rfl rfl (Sim.refl _ 0) (by with_reducible assumption) ?_; intro d n hd hbd))
        go_ret
        exact ⟨_, _, _, rfl, rfl, by rw [HE.out]; with_reducible assumption, by rw [HE.out]; with_reducible assumption, by with_reducible assumption, by with_reducible assumption⟩
    · have hlt : (FloatKind.f64.format.order (QF r k) 4598175219545276416 == some .gt || FloatKind.f64.format.order (QF r k) 4598175219545276416 == some .eq) = true := hg
      have hall2 : ∀ j, j < k + 1 → ge (QF r j) quarter = true := fun j hj => by
        by_cases e : j = k
        · rw [e]; exact hg
        · exact hall j (by omega)
      have HLE := hid (QF_le HB.out (k + 1) hall2)
      have HALL := hid hall2
      have HNK := hid (bd_nan (QF_sv HB.out (k + 1) hall2).1)
      clear hall hg hall2
      go_wp2_with (refine wpList_fsim rfl _ _ _ _ _ rfl rfl .f64 _ _ rfl rfl (Sim.refl _ _) (Sim.refl _ _) ?_; intro d n hd hbd; obtain rfl := sim_eq (show Sim .f64 d (QF _ (k + 1)) from hd) HNK.out; clear hd)
      go_roundw
      case rel => exact ⟨k + 1, _, HLE.out, rfl, by go_num, HALL.out, rfl⟩
      case measure => have := HLE.out; simp [intOf]; omega
set_option maxHeartbeats 4000000 in
theorem spPh1 (y : Nat) (w : World) (h : FinW Ieee.double y) (hbig : big y = false) (h0 : (FloatKind.f64.format.order (frac0 y) 0 == some .lt) = true) : Calls Try.prog 64 #[.float .f64 y] w (RetC (phS y) w) := by
  have hb : mv Ieee.double (rung Ieee.double y) < 2 ^ 52 * 2 ^ un := by
    have := of_decide_eq_false hbig
    generalize 2 ^ 52 * 2 ^ un = T at *
    omega
  have hc : ∀ w, (convert 25 2 (.float .f64 y)).run Try.prog w = .ok (.int .i64 (toI y)) w := fun w => run_convert_float_int w 25 2 .f64 .i64 y (toI y) u25 Try.underlying2 (toI_val h hb).1
  have HE : Hid (phS y = (fconv .f64 (PF (fracF y)).1 .f32, fconv .f64 (PF (fracF y)).2 .f32)) := hid (by unfold phS; rw [fin_iff.2 (show FinW FloatKind.f64.format y from h), hbig]; rfl)
  have HB := hid (fracF_bd h hb)
  have HFF := hid (fracF_fits (y := y))
  have e0 : fracF y = fop .add .f64 (fop .sub .f64 y (floatOfInt .f64 (toI y))) one := by unfold fracF; rw [h0]; rfl
  rw [e0] at HE HB HFF
  have t0 : (FloatKind.f64.format.order (fop .sub .f64 y y) 0 != some .eq) = false := fin_neq h
  have t3 : (FloatKind.f64.format.order y 4841369599423283200 == some .gt || FloatKind.f64.format.order y 4841369599423283200 == some .eq) = false := lt52 h hb
  have t4 : (FloatKind.f64.format.order y 14064741636278059008 == some .lt || FloatKind.f64.format.order y 14064741636278059008 == some .eq) = false := gtm52 h hb
  have t5 : (FloatKind.f64.format.order (fop .sub .f64 y (floatOfInt .f64 (toI y))) 0 == some .lt) = true := h0
  have tr := toI_val h hb
  have tr1 : -9223372036854775808 ≤ toI y := by have := tr.2; omega
  have tr2 : toI y ≤ 9223372036854775807 := by have := tr.2; omega
  have HN := hid (bd_nan HB.out)
  clear h0 h hb tr e0 hbig
  go_enter Try.func64, Try.ntmps64
  go_wp2_with (refine wpList_fsim rfl _ _ _ _ _ rfl rfl .f64 _ _ rfl rfl (by first | with_reducible assumption | exact Sim.refl _ _) (by first | with_reducible assumption | exact Sim.refl _ _) ?_; intro r n hr hb; have ht0 := order_congr hr (Sim.refl .f64 0))
  obtain ⟨F, hF⟩ : ∃ F, fop .add .f64 (fop .sub .f64 y (floatOfInt .f64 (toI y))) one = F := ⟨_, rfl⟩
  rw [show fop .add .f64 (fop .sub .f64 y (floatOfInt .f64 (toI y))) one = F from hF] at HE HB HFF HN
  have hrF : Sim .f64 r F := by rw [← hF]; exact hr
  clear hF hr
  obtain rfl := sim_eq hrF HN.out
  clear hrF t5 ht0
  go_loopw [3, 4] (fun f q wr => ∃ (k n : Nat), k ≤ 8 ∧ f = .float .f64 (QF r k) ∧ q = .int .i64 k ∧ (∀ j, j < k → ge (QF r j) quarter = true) ∧ wr = w.drewN n) (fun _ q _ => 9 - (intOf q).toNat)
  case atStart => exact ⟨0, _, by omega, rfl, rfl, fun j hj => absurd hj (Nat.not_lt_zero _), rfl⟩
  case round =>
    obtain ⟨k, n, hk, rfl, rfl, hall, rfl⟩ := hrel
    have HBK := hid (QF_sv HB.out k hall).1
    have HFK := hid (qf_fits HFF.out k)
    cases hg : ge (QF r k) quarter
    · have HPF := hid (PF_end HB.out hall hg)
      have hlt : (FloatKind.f64.format.order (QF r k) 4598175219545276416 == some .gt || FloatKind.f64.format.order (QF r k) 4598175219545276416 == some .eq) = false := hg
      clear hall hg
      generalize QF r k = G at *
      have HS1 := hid (fun w => spSineW (fop .sub .f64 quarter G) w (bd_qg HBK.out).1 (bd_small (bd_qg HBK.out) (by omega)))
      have HS2 := hid (fun w => spSineW G w HBK.out.1 (bd_small HBK.out (by omega)))
      have HN1 := hid (bd_nan (bd_qg HBK.out))
      have HC1 := hid (qg_sine HBK.out)
      have HC2 := hid (g_sine HBK.out)
      rw [HPF.out] at HE
      rcases k_cases k with rfl | rfl | rfl | ⟨k1, k2, k3, k4, k5, k6⟩
      · have HQ : Hid (PQ G 1 = (fop .sub .f64 0 (sineF G), sineF (fop .sub .f64 quarter G))) := hid rfl
        rw [HQ.out] at HE
        have HO1 := hid (bd_over (bd_zsub HC2.out (by omega)) (by omega))
        have HO2 := hid (bd_over (HC1.out) (by omega))
        clear HQ
        go_wp2_with (first | (go_at_call 81; (with_reducible refine (HS2.out _).mono ?_); rintro e w' ⟨s, n, rfl, rfl, hs, hbs⟩) | (go_at_call 81; (with_reducible refine (HS1.out _).mono ?_); rintro e w' ⟨c, n, rfl, rfl, hc, hbc⟩) | (go_at_call 79; (first | refine (narrowW _ _ _ (by with_reducible assumption) (by with_reducible assumption) HO1.out).mono ?_ | refine (narrowW _ _ _ (by with_reducible assumption) (by with_reducible assumption) HO2.out).mono ?_); rintro e w' ⟨r, n, rfl, rfl, hr, hb⟩) | (refine wpList_fsim rfl _ _ _ _ _ rfl rfl .f64 _ _ rfl rfl (Sim.refl _ quarter) (Sim.refl _ G) ?_; intro d n hd hbd; obtain rfl := sim_eq hd HN1.out; clear hd) | (refine wpList_fsim rfl _ _ _ _ _ rfl rfl .f64 _ _ rfl rfl (Sim.refl _ 0) (by with_reducible assumption) ?_; intro d n hd hbd))
        go_ret
        exact ⟨_, _, _, rfl, rfl, by rw [HE.out]; with_reducible assumption, by rw [HE.out]; with_reducible assumption, by with_reducible assumption, by with_reducible assumption⟩
      · have HQ : Hid (PQ G 2 = (fop .sub .f64 0 (sineF (fop .sub .f64 quarter G)), fop .sub .f64 0 (sineF G))) := hid rfl
        rw [HQ.out] at HE
        have HO1 := hid (bd_over (bd_zsub HC1.out (by omega)) (by omega))
        have HO2 := hid (bd_over (bd_zsub HC2.out (by omega)) (by omega))
        clear HQ
        go_wp2_with (first | (go_at_call 81; (with_reducible refine (HS2.out _).mono ?_); rintro e w' ⟨s, n, rfl, rfl, hs, hbs⟩) | (go_at_call 81; (with_reducible refine (HS1.out _).mono ?_); rintro e w' ⟨c, n, rfl, rfl, hc, hbc⟩) | (go_at_call 79; (first | refine (narrowW _ _ _ (by with_reducible assumption) (by with_reducible assumption) HO1.out).mono ?_ | refine (narrowW _ _ _ (by with_reducible assumption) (by with_reducible assumption) HO2.out).mono ?_); rintro e w' ⟨r, n, rfl, rfl, hr, hb⟩) | (refine wpList_fsim rfl _ _ _ _ _ rfl rfl .f64 _ _ rfl rfl (Sim.refl _ quarter) (Sim.refl _ G) ?_; intro d n hd hbd; obtain rfl := sim_eq hd HN1.out; clear hd) | (refine wpList_fsim rfl _ _ _ _ _ rfl rfl .f64 _ _ rfl rfl (Sim.refl _ 0) (by with_reducible assumption) ?_; intro d n hd hbd))
        go_ret
        exact ⟨_, _, _, rfl, rfl, by rw [HE.out]; with_reducible assumption, by rw [HE.out]; with_reducible assumption, by with_reducible assumption, by with_reducible assumption⟩
      · have HQ : Hid (PQ G 3 = (sineF G, fop .sub .f64 0 (sineF (fop .sub .f64 quarter G)))) := hid rfl
        rw [HQ.out] at HE
        have HO1 := hid (bd_over (HC2.out) (by omega))
        have HO2 := hid (bd_over (bd_zsub HC1.out (by omega)) (by omega))
        clear HQ
        go_wp2_with (first | (go_at_call 81; (with_reducible refine (HS2.out _).mono ?_); rintro e w' ⟨s, n, rfl, rfl, hs, hbs⟩) | (go_at_call 81; (with_reducible refine (HS1.out _).mono ?_); rintro e w' ⟨c, n, rfl, rfl, hc, hbc⟩) | (go_at_call 79; (first | refine (narrowW _ _ _ (by with_reducible assumption) (by with_reducible assumption) HO1.out).mono ?_ | refine (narrowW _ _ _ (by with_reducible assumption) (by with_reducible assumption) HO2.out).mono ?_); rintro e w' ⟨r, n, rfl, rfl, hr, hb⟩) | (refine wpList_fsim rfl _ _ _ _ _ rfl rfl .f64 _ _ rfl rfl (Sim.refl _ quarter) (Sim.refl _ G) ?_; intro d n hd hbd; obtain rfl := sim_eq hd HN1.out; clear hd) | (refine wpList_fsim rfl _ _ _ _ _ rfl rfl .f64 _ _ rfl rfl (Sim.refl _ 0) (by with_reducible assumption) ?_; intro d n hd hbd))
        go_ret
        exact ⟨_, _, _, rfl, rfl, by rw [HE.out]; with_reducible assumption, by rw [HE.out]; with_reducible assumption, by with_reducible assumption, by with_reducible assumption⟩
      · have HQ : Hid (PQ G k = (sineF (fop .sub .f64 quarter G), sineF G)) := hid (by unfold PQ; rw [if_neg k4, if_neg k5, if_neg k6])
        rw [HQ.out] at HE
        have HO1 := hid (bd_over (HC1.out) (by omega))
        have HO2 := hid (bd_over (HC2.out) (by omega))
        clear HQ
        go_wp2_with (first | (go_at_call 81; (with_reducible refine (HS2.out _).mono ?_); rintro e w' ⟨s, n, rfl, rfl, hs, hbs⟩) | (go_at_call 81; (with_reducible refine (HS1.out _).mono ?_); rintro e w' ⟨c, n, rfl, rfl, hc, hbc⟩) | (go_at_call 79; (first | refine (narrowW _ _ _ (by with_reducible assumption) (by with_reducible assumption) HO1.out).mono ?_ | refine (narrowW _ _ _ (by with_reducible assumption) (by with_reducible assumption) HO2.out).mono ?_); rintro e w' ⟨r, n, rfl, rfl, hr, hb⟩) | (refine wpList_fsim rfl _ _ _ _ _ rfl rfl .f64 _ _ rfl rfl (Sim.refl _ quarter) (Sim.refl _ G) ?_; intro d n hd hbd; obtain rfl := sim_eq hd HN1.out; clear hd) | (refine wpList_fsim rfl _ _ _ _ _ rfl rfl .f64 _ _ rfl rfl (Sim.refl _ 0) (by with_reducible assumption) ?_; intro d n hd hbd))
        go_ret
        exact ⟨_, _, _, rfl, rfl, by rw [HE.out]; with_reducible assumption, by rw [HE.out]; with_reducible assumption, by with_reducible assumption, by with_reducible assumption⟩
    · have hlt : (FloatKind.f64.format.order (QF r k) 4598175219545276416 == some .gt || FloatKind.f64.format.order (QF r k) 4598175219545276416 == some .eq) = true := hg
      have hall2 : ∀ j, j < k + 1 → ge (QF r j) quarter = true := fun j hj => by
        by_cases e : j = k
        · rw [e]; exact hg
        · exact hall j (by omega)
      have HLE := hid (QF_le HB.out (k + 1) hall2)
      have HALL := hid hall2
      have HNK := hid (bd_nan (QF_sv HB.out (k + 1) hall2).1)
      clear hall hg hall2
      go_wp2_with (refine wpList_fsim rfl _ _ _ _ _ rfl rfl .f64 _ _ rfl rfl (Sim.refl _ _) (Sim.refl _ _) ?_; intro d n hd hbd; obtain rfl := sim_eq (show Sim .f64 d (QF _ (k + 1)) from hd) HNK.out; clear hd)
      go_roundw
      case rel => exact ⟨k + 1, _, HLE.out, rfl, by go_num, HALL.out, rfl⟩
      case measure => have := HLE.out; simp [intOf]; omega
theorem spPhasor0 (y : Nat) (w : World) (hy : Fits .f64 y) : Calls Try.prog 64 #[.float .f64 y] w (RetC (phS y) w) := by
  cases hf : fin .f64 y
  · exact spPhNan y w hf
  · cases hb : big y
    · cases h0 : (FloatKind.f64.format.order (frac0 y) 0 == some .lt)
      · exact spPh0 y w (fin_iff.1 hf) hb h0
      · exact spPh1 y w (fin_iff.1 hf) hb h0
    · have := spPhBig y (fin_iff.1 hf) hb w
      rwa [show phS y = (1065353216, 0) by unfold phS; rw [hf, hb]; rfl]
theorem spPhasor (y : Nat) (w : World) (hy : Fits .f64 y) : Calls Try.prog 35 #[.float .f64 y] w (RetC (phS y) w) := by
  go_enter Try.func35, Try.ntmps35
  go_wp2_with (go_at_call 64; refine (spPhasor0 _ _ hy).mono ?_; rintro e w' ⟨r1, r2, n, rfl, rfl, h1, h2, h3, h4⟩)
  go_ret
  exact ⟨_, _, _, rfl, rfl, h1, h2, h3, h4⟩
end TryWalk
end Go.Proofs.Ytlabbakmlanfgaa
