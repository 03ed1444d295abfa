/- Walks of the phasor: the rebuild's. No condition. -/
import Derived.Test.YtlabbakmlanfgaaCph1
namespace Go.Proofs.Ytlabbakmlanfgaa
open Go.RowKit Flo Iee
set_option linter.unusedVariables false
namespace TryWalk
/-- It returns a complex number whose parts are the same as F's. -/
def RetC (F : Nat × Nat) (w : World) (e : Ending) (w' : World) : Prop := ∃ r1 r2 n, e = .returned (.complex .f32 r1 r2) ∧ w' = w.drewN n ∧ Sim .f32 r1 F.1 ∧ Sim .f32 r2 F.2 ∧ Fits .f32 r1 ∧ Fits .f32 r2
theorem some25 : (Try.prog.underlying 25).isSome = true := u25
theorem some22 : (Try.prog.underlying 22).isSome = true := u22
theorem fin64W (x : Nat) (w : World) : Calls Try.prog 65 #[.float .f64 x] w fun e w' => e = .returned (.bool (fin .f64 x)) ∧ ∃ n, w' = w.drewN n := by
  go_enter Try.func65, Try.ntmps65
  go_wp2_with (refine wpList_farith rfl .sub _ _ _ _ rfl rfl .f64 _ _ rfl rfl ?_; intro r n hr hb)
  go_ret
  exact ⟨by rw [← isFin_eq, isFin, ← order_congr hr (Sim.refl _ _)]; rfl, n, rfl⟩
theorem qf_fits {f : Nat} (h : Fits .f64 f) : ∀ k, Fits .f64 (QF f k)
  | 0 => h
  | k + 1 => fits_fop ..
theorem fracF_fits {y : Nat} : Fits .f64 (fracF y) := by
  unfold fracF frac0
  split <;> exact fits_fop ..
theorem PF_end {f k : Nat} (h : Bd 1023 f) (hall : ∀ j, j < k → ge (QF f j) quarter = true) (hno : ge (QF f k) quarter = false) : PF f = PQ (QF f k) k := by
  unfold PF
  rw [qS_end h hall hno]
theorem k_cases (k : Nat) : k = 1 ∨ k = 2 ∨ k = 3 ∨ (((k : Int) == 1) = false ∧ ((k : Int) == 2) = false ∧ ((k : Int) == 3) = false ∧ k ≠ 1 ∧ k ≠ 2 ∧ k ≠ 3) := by
  by_cases h1 : k = 1
  · exact .inl h1
  · by_cases h2 : k = 2
    · exact .inr (.inl h2)
    · by_cases h3 : k = 3
      · exact .inr (.inr (.inl h3))
      · refine .inr (.inr (.inr ⟨?_, ?_, ?_, h1, h2, h3⟩)) <;> simp <;> omega
set_option maxHeartbeats 4000000 in
theorem imPhasor (y : Nat) (w : World) (hy : Fits .f64 y) : Calls Try.prog 36 #[.float .f64 y] w (RetC (phS y) w) := by
  cases hf : fin .f64 y
  · have HE := hid (show phS y = (fconv .f64 9221120237041090561 .f32, fconv .f64 9221120237041090561 .f32) by unfold phS; rw [hf, fconv_qnS (by decide) nanW_nan]; rfl)
    have HO := hid (over_nanS (s := .f64) (k := .f32) nanW_nan)
    go_enter Try.func36, Try.ntmps36
    go_wp2_with (first | (go_at_call 65; refine (fin64W _ _).mono ?_; rintro e w' ⟨rfl, n, rfl⟩) | (go_at_call 55; refine (nanW _).mono ?_; rintro e w' ⟨rfl, rfl⟩) | (refine wpList_fcsim rfl _ _ _ rfl .f64 .f32 _ rfl nanW_fits u25 Try.underlying22 (by decide) (Sim.refl _ _) ?_; intro r n hr hb))
    go_ret
    exact ⟨_, _, _, rfl, rfl, by rw [HE.out]; exact hr HO.out, by rw [HE.out]; exact hr HO.out, hb, hb⟩
  · have hfy := fin_iff.1 hf
    have ha := abs_ge hfy
    have H64 := hid (fits64 hy)
    cases hbig : big y
    · have hb : mv Ieee.double (rung Ieee.double y) < 2 ^ 52 * 2 ^ un := by
        have := of_decide_eq_false hbig
        generalize 2 ^ 52 * 2 ^ un = T at *
        omega
      have HE : Hid (phS y = (fconv .f64 (PF (fracF y)).1 .f32, fconv .f64 (PF (fracF y)).2 .f32)) := hid (by unfold phS; rw [hf, hbig]; rfl)
      have HFR := hid (fracW y · hy hfy hb)
      have HB := hid (fracF_bd hfy hb)
      have HFF := hid (fracF_fits (y := y))
      rw [hbig] at ha
      generalize fracF y = F at *
      have HN := hid (bd_nan HB.out)
      clear hbig hb hfy
      go_enter Try.func36, Try.ntmps36
      go_wp2_with (first | (go_at_call 65; refine (fin64W _ _).mono ?_; rintro e w' ⟨rfl, n, rfl⟩) | (go_at_call 59; refine (absW _ _ H64.out).mono ?_; rintro e w' ⟨rfl, rfl⟩) | (go_at_call 66; refine (HFR.out _).mono ?_; rintro e w' ⟨r, n, rfl, rfl, hr, hb⟩; obtain rfl := sim_eq hr HN.out; clear hr hb))
      go_loopw [4, 5] (fun f q wr => ∃ (k n : Nat), k ≤ 8 ∧ f = .float .f64 (QF r k) ∧ q = .int .i64 k ∧ (∀ j, j < k → ge (QF r j) quarter = true) ∧ wr = w.drewN n) (fun _ q _ => 9 - (intOf q).toNat)
      case atStart => exact ⟨0, _, by omega, rfl, rfl, fun j hj => absurd hj (Nat.not_lt_zero _), rfl⟩
      case round =>
        obtain ⟨k, n, hk, rfl, rfl, hall, rfl⟩ := hrel
        have HBK := hid (QF_sv HB.out k hall).1
        have HFK := hid (qf_fits HFF.out k)
        cases hg : ge (QF r k) quarter
        · have HPF := hid (PF_end HB.out hall hg)
          have hlt : (FloatKind.f64.format.order (QF r k) 4598175219545276416 == some .gt || FloatKind.f64.format.order (QF r k) 4598175219545276416 == some .eq) = false := hg
          clear hall hg
          generalize QF r k = G at *
          have HS1 := hid (fun w => sineW (fop .sub .f64 quarter G) w (fits_fop ..) (bd_qg HBK.out).1 (bd_small (bd_qg HBK.out) (by omega)))
          have HS2 := hid (fun w => sineW G w HFK.out HBK.out.1 (bd_small HBK.out (by omega)))
          have HN1 := hid (bd_nan (bd_qg HBK.out))
          have HC1 := hid (qg_sine HBK.out)
          have HC2 := hid (g_sine HBK.out)
          rw [HPF.out] at HE
          rcases k_cases k with rfl | rfl | rfl | ⟨k1, k2, k3, k4, k5, k6⟩
          · have HQ : Hid (PQ G 1 = (fop .sub .f64 0 (sineF G), sineF (fop .sub .f64 quarter G))) := hid rfl
            rw [HQ.out] at HE
            have HO1 := hid (bd_over (bd_zsub HC2.out (by omega)) (by omega))
            have HO2 := hid (bd_over (HC1.out) (by omega))
            clear HQ
            go_wp2_with (first | (go_at_call 60; (with_reducible refine (HS2.out _).mono ?_); rintro e w' ⟨s, n, rfl, rfl, hs, hbs⟩) | (go_at_call 60; (with_reducible refine (HS1.out _).mono ?_); rintro e w' ⟨c, n, rfl, rfl, hc, hbc⟩) | (refine wpList_fsim rfl _ _ _ _ _ rfl rfl .f64 _ _ rfl rfl (Sim.refl _ quarter) (Sim.refl _ G) ?_; intro d n hd hbd; obtain rfl := sim_eq hd HN1.out; clear hd) | (refine wpList_fsim rfl _ _ _ _ _ rfl rfl .f64 _ _ rfl rfl (Sim.refl _ 0) (by with_reducible assumption) ?_; intro d n hd hbd) | (refine wpList_fcsim rfl _ _ _ rfl .f64 .f32 _ rfl (by with_reducible assumption) some25 Try.underlying22 (by decide) (by with_reducible assumption) ?_; intro r n hr hb; have hr2 := hr (by first | with_reducible exact HO1.out | with_reducible exact HO2.out); clear hr))
            go_ret
            exact ⟨_, _, _, rfl, rfl, by rw [HE.out]; with_reducible assumption, by rw [HE.out]; with_reducible assumption, by with_reducible assumption, by with_reducible assumption⟩
          · have HQ : Hid (PQ G 2 = (fop .sub .f64 0 (sineF (fop .sub .f64 quarter G)), fop .sub .f64 0 (sineF G))) := hid rfl
            rw [HQ.out] at HE
            have HO1 := hid (bd_over (bd_zsub HC1.out (by omega)) (by omega))
            have HO2 := hid (bd_over (bd_zsub HC2.out (by omega)) (by omega))
            clear HQ
            go_wp2_with (first | (go_at_call 60; (with_reducible refine (HS2.out _).mono ?_); rintro e w' ⟨s, n, rfl, rfl, hs, hbs⟩) | (go_at_call 60; (with_reducible refine (HS1.out _).mono ?_); rintro e w' ⟨c, n, rfl, rfl, hc, hbc⟩) | (refine wpList_fsim rfl _ _ _ _ _ rfl rfl .f64 _ _ rfl rfl (Sim.refl _ quarter) (Sim.refl _ G) ?_; intro d n hd hbd; obtain rfl := sim_eq hd HN1.out; clear hd) | (refine wpList_fsim rfl _ _ _ _ _ rfl rfl .f64 _ _ rfl rfl (Sim.refl _ 0) (by with_reducible assumption) ?_; intro d n hd hbd) | (refine wpList_fcsim rfl _ _ _ rfl .f64 .f32 _ rfl (by with_reducible assumption) some25 Try.underlying22 (by decide) (by with_reducible assumption) ?_; intro r n hr hb; have hr2 := hr (by first | with_reducible exact HO1.out | with_reducible exact HO2.out); clear hr))
            go_ret
            exact ⟨_, _, _, rfl, rfl, by rw [HE.out]; with_reducible assumption, by rw [HE.out]; with_reducible assumption, by with_reducible assumption, by with_reducible assumption⟩
          · have HQ : Hid (PQ G 3 = (sineF G, fop .sub .f64 0 (sineF (fop .sub .f64 quarter G)))) := hid rfl
            rw [HQ.out] at HE
            have HO1 := hid (bd_over (HC2.out) (by omega))
            have HO2 := hid (bd_over (bd_zsub HC1.out (by omega)) (by omega))
            clear HQ
            go_wp2_with (first | (go_at_call 60; (with_reducible refine (HS2.out _).mono ?_); rintro e w' ⟨s, n, rfl, rfl, hs, hbs⟩) | (go_at_call 60; (with_reducible refine (HS1.out _).mono ?_); rintro e w' ⟨c, n, rfl, rfl, hc, hbc⟩) | (refine wpList_fsim rfl _ _ _ _ _ rfl rfl .f64 _ _ rfl rfl (Sim.refl _ quarter) (Sim.refl _ G) ?_; intro d n hd hbd; obtain rfl := sim_eq hd HN1.out; clear hd) | (refine wpList_fsim rfl _ _ _ _ _ rfl rfl .f64 _ _ rfl rfl (Sim.refl _ 0) (by with_reducible assumption) ?_; intro d n hd hbd) | (refine wpList_fcsim rfl _ _ _ rfl .f64 .f32 _ rfl (by with_reducible assumption) some25 Try.underlying22 (by decide) (by with_reducible assumption) ?_; intro r n hr hb; have hr2 := hr (by first | with_reducible exact HO1.out | with_reducible exact HO2.out); clear hr))
            go_ret
            exact ⟨_, _, _, rfl, rfl, by rw [HE.out]; with_reducible assumption, by rw [HE.out]; with_reducible assumption, by with_reducible assumption, by with_reducible assumption⟩
          · have HQ : Hid (PQ G k = (sineF (fop .sub .f64 quarter G), sineF G)) := hid (by unfold PQ; rw [if_neg k4, if_neg k5, if_neg k6])
            rw [HQ.out] at HE
            have HO1 := hid (bd_over (HC1.out) (by omega))
            have HO2 := hid (bd_over (HC2.out) (by omega))
            clear HQ
            go_wp2_with (first | (go_at_call 60; (with_reducible refine (HS2.out _).mono ?_); rintro e w' ⟨s, n, rfl, rfl, hs, hbs⟩) | (go_at_call 60; (with_reducible refine (HS1.out _).mono ?_); rintro e w' ⟨c, n, rfl, rfl, hc, hbc⟩) | (refine wpList_fsim rfl _ _ _ _ _ rfl rfl .f64 _ _ rfl rfl (Sim.refl _ quarter) (Sim.refl _ G) ?_; intro d n hd hbd; obtain rfl := sim_eq hd HN1.out; clear hd) | (refine wpList_fsim rfl _ _ _ _ _ rfl rfl .f64 _ _ rfl rfl (Sim.refl _ 0) (by with_reducible assumption) ?_; intro d n hd hbd) | (refine wpList_fcsim rfl _ _ _ rfl .f64 .f32 _ rfl (by with_reducible assumption) some25 Try.underlying22 (by decide) (by with_reducible assumption) ?_; intro r n hr hb; have hr2 := hr (by first | with_reducible exact HO1.out | with_reducible exact HO2.out); clear hr))
            go_ret
            exact ⟨_, _, _, rfl, rfl, by rw [HE.out]; with_reducible assumption, by rw [HE.out]; with_reducible assumption, by with_reducible assumption, by with_reducible assumption⟩
        · have hlt : (FloatKind.f64.format.order (QF r k) 4598175219545276416 == some .gt || FloatKind.f64.format.order (QF r k) 4598175219545276416 == some .eq) = true := hg
          have hall2 : ∀ j, j < k + 1 → ge (QF r j) quarter = true := fun j hj => by
            by_cases e : j = k
            · rw [e]; exact hg
            · exact hall j (by omega)
          have HLE := hid (QF_le HB.out (k + 1) hall2)
          have HALL := hid hall2
          have HNK := hid (bd_nan (QF_sv HB.out (k + 1) hall2).1)
          clear hall hg hall2
          go_wp2_with (refine wpList_fsim rfl _ _ _ _ _ rfl rfl .f64 _ _ rfl rfl (Sim.refl _ _) (Sim.refl _ _) ?_; intro d n hd hbd; obtain rfl := sim_eq (show Sim .f64 d (QF _ (k + 1)) from hd) HNK.out; clear hd)
          go_roundw
          case rel => exact ⟨k + 1, _, HLE.out, rfl, by go_num, HALL.out, rfl⟩
          case measure => have := HLE.out; simp [intOf]; omega
    · have HE : Hid (phS y = (1065353216, 0)) := hid (by unfold phS; rw [hf, hbig]; rfl)
      rw [hbig] at ha
      clear hbig hfy
      go_enter Try.func36, Try.ntmps36
      go_wp2_with (first | (go_at_call 65; refine (fin64W _ _).mono ?_; rintro e w' ⟨rfl, n, rfl⟩) | (go_at_call 59; refine (absW _ _ H64.out).mono ?_; rintro e w' ⟨rfl, rfl⟩))
      go_ret
      exact ⟨1065353216, 0, _, rfl, rfl, by rw [HE.out]; exact Sim.refl _ _, by rw [HE.out]; exact Sim.refl _ _, fits_of_wf (by decide), fits_of_wf (by decide)⟩
end TryWalk
end Go.Proofs.Ytlabbakmlanfgaa
