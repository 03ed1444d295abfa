/- The law on powers and logarithms. No condition. -/
import Derived.Test.YtlabbakmlanfgaaWpw
namespace Go.Proofs.Ytlabbakmlanfgaa
open Go.RowKit Flo Iee Sl Kf
set_option linter.unusedVariables false
namespace TryWalk
theorem pos_gt0 {x : Nat} (h : Pos x) : (FloatKind.f32.format.order x 0 == some .gt) = true := by
  have hf := fin_iff.1 h.xf
  have h0 := h.x0
  have h1 := h.x1
  rw [eq_fin hf (fin_zero .f32)] at h0
  rw [lt_fin hf (fin_zero .f32)] at h1
  rw [gt_fin hf (fin_zero .f32), decide_eq_true_eq]
  have g0 := of_decide_eq_false h0
  have g1 := of_decide_eq_false h1
  omega
theorem exp0 (w : World) : Calls Try.prog 25 #[.float .f32 0] w (RetF .f32 1065353216 w) := by
  have h := pwE (s := 64) (by decide)
  rw [show XT 64 = 0 from rfl, show ET 64 = 1065353216 from rfl] at h
  have := imExp 0 w (fits_of_wf (by decide)) h.1
  rwa [h.2.2.1] at this
theorem log1_val : fconv .f64 (logF (fconv .f32 1065353216 .f64)) .f32 = 0 := by decide +kernel
theorem log1 (w : World) : Calls Try.prog 29 #[.float .f32 1065353216] w (RetF .f32 0 w) := by
  have := (logPos 1065353216 (fits_of_wf (by decide)) (pos_of (by decide) (by decide))).2 w
  rwa [log1_val] at this
theorem one_eq : (FloatKind.f32.format.order 1065353216 1065353216 == some .eq) = true := by decide +kernel
theorem zero_eq : (FloatKind.f32.format.order 0 0 == some .eq) = true := by decide +kernel
theorem nan_one : NaN .f32 1065353216 = false := by decide +kernel
theorem nan_zero : NaN .f32 0 = false := by decide +kernel
set_option maxRecDepth 100000 in
set_option maxHeartbeats 4000000 in
theorem fnPowers (a : Option Addr) (la ca : Nat) (xs : List Int) (b : Option Addr) (lb cb : Nat) (ys : List Int) (w : World) (hra : IsRow .u8 w a la ca xs) (hrb : IsRow .u8 w b lb cb ys) : Calls Try.prog 7 #[.slice a la ca, .slice b lb cb] w fun e w' => e = .returned (.bool true) ∧ Below w.heap.size w w' := by
  have HA := hid hra
  have HB := hid hrb
  clear hra hrb
  by_cases hbig : 1048576 < la ∨ 1048576 < lb
  · have HBIG := hid hbig
    clear hbig
    go_enter Try.func7, Try.ntmps7
    go_wp2_with fail
    refine (longYes _ _ _ _ _ _ _ HBIG.out).mono ?_
    rintro e w' ⟨rfl, rfl⟩
    go_wp2_with fail
    go_ret
    exact ⟨rfl, Below.refl _ _⟩
  · have hla : la ≤ 1048576 := by omega
    have hlb : lb ≤ 1048576 := by omega
    clear hbig
    go_enter Try.func7, Try.ntmps7
    go_wp2_with fail
    refine (longNo _ _ _ _ _ _ _ hla hlb).mono ?_
    rintro e w' ⟨rfl, rfl⟩
    go_wp2_with fail
    refine (atW _ _ _ _ _ HA.out 0 65 (.inl rfl) (by decide) (by decide)).mono ?_
    rintro e w' ⟨⟨u, hu, rfl⟩, rfl⟩
    have hu65 : u < 65 := by omega
    have HX := hid (pwX hu65)
    have HEU := hid (pwE (s := u + 32) (by omega))
    have HLU := hid (pwL hu65)
    obtain ⟨x0, hx⟩ : ∃ x, XT (u + 32) = x := ⟨_, rfl⟩
    have HXE := hid hx
    rw [hx] at HX HEU HLU
    have HXN := hid HEU.out.2.1
    have HXF := hid (show Fits .f32 x0 by rw [← HX.out]; exact fits_fop ..)
    clear hx hu
    go_wp2_with (refine wpList_fsim rfl _ _ _ _ _ rfl rfl .f32 _ _ rfl rfl (Sim.refl _ _) (Sim.refl _ _) ?_; intro x n hr hb; rw [HX.out] at hr; obtain rfl := sim_eq hr HXN.out; clear hr hb)
    refine (atW _ _ _ _ _ (show IsRow .u8 (w.drewN n) b lb cb ys from HB.out) 0 65 (.inl rfl) (by decide) (by decide)).mono ?_
    rintro e w' ⟨⟨v, hv, rfl⟩, rfl⟩
    have hv65 : v < 65 := by omega
    have HY := hid (pwX hv65)
    have HEV := hid (pwE (s := v + 32) (by omega))
    have HEZ := hid (pwE (s := u + v) (by omega))
    have HP := hid (pwP hu65 hv65)
    obtain ⟨y0, hy⟩ : ∃ x, XT (v + 32) = x := ⟨_, rfl⟩
    obtain ⟨z0, hz⟩ : ∃ x, XT (u + v) = x := ⟨_, rfl⟩
    rw [hy] at HY HEV HP
    rw [hz] at HEZ HP
    rw [HXE.out] at HP
    have HYN := hid HEV.out.2.1
    have HZN := hid HEZ.out.2.1
    have HYF := hid (show Fits .f32 y0 by rw [← HY.out]; exact fits_fop ..)
    have HZF := hid (show Fits .f32 z0 by rw [← HP.out.1]; exact fits_fop ..)
    obtain ⟨HA1, HA2, HA3, HA4, HA5, HA6, HA7, HA8⟩ := HEU.out
    obtain ⟨HB1, HB2, HB3, HB4, HB5, HB6, HB7, HB8⟩ := HEV.out
    obtain ⟨HC1, HC2, HC3, HC4, HC5, HC6, HC7, HC8⟩ := HEZ.out
    have HPA := hid HP.out.1
    have HPO := hid HP.out.2
    obtain ⟨HL1, L0, HL2, HL3, HL4⟩ := HLU.out
    generalize ET (u + 32) = A0 at *
    generalize ET (v + 32) = B0 at *
    generalize ET (u + v) = C0 at *
    generalize UT (u + 32) = A1 at *
    generalize UT (v + 32) = B1 at *
    generalize UT (u + v) = C1 at *
    generalize MT (u + v) = M1 at *
    have HEXA := hid (fun w => imExp x w HXF.out HA1)
    have HEXB := hid (fun w => imExp y0 w HYF.out HB1)
    have HEXC := hid (fun w => imExp z0 w HZF.out HC1)
    rw [HA3] at HEXA
    rw [HB3] at HEXB
    rw [HC3] at HEXC
    have HLOG := hid (logPos A0 HA5 HL1).2
    rw [HL2] at HLOG
    have HNA := hid HA4
    have HNB := hid HB4
    have HNC := hid HC4
    have HFA := hid HA5
    have HFB := hid HB5
    have HFC := hid HC5
    have HUA := hid HA6
    have HUB := hid HB6
    have HUC := hid HC6
    have HNA1 := hid HA7
    have HNB1 := hid HB7
    have HNC1 := hid HC7
    have HM := hid HC8
    have HLO := hid HL4
    have HLN := hid HL3
    have hag := HL1
    clear hy hz hv HA1 HA2 HA3 HA4 HA5 HA6 HA7 HA8 HB1 HB2 HB3 HB4 HB5 HB6 HB7 HB8 HC1 HC2 HC3 HC4 HC5 HC6 HC7 HC8 HL1 HL2 HL3 HL4 HXE HEU HEV HEZ HP HLU
    go_wp2_with (first
      | (refine wpList_fsim rfl .quo _ _ _ _ rfl rfl .f32 _ _ rfl rfl (Sim.refl _ _) (Sim.refl _ _) ?_; intro y n hr hb; rw [HY.out] at hr; obtain rfl := sim_eq hr HYN.out; clear hr hb))
    refine (HEXA.out _).mono ?_
    rintro e w' ⟨A, n, rfl, rfl, hr, hb⟩
    obtain rfl := sim_eq hr HNA.out
    clear hr hb
    go_wp2_with fail
    refine (HEXB.out _).mono ?_
    rintro e w' ⟨B, n, rfl, rfl, hr, hb⟩
    obtain rfl := sim_eq hr HNB.out
    clear hr hb
    go_wp2_with (refine wpList_fsim rfl .add _ _ _ _ rfl rfl .f32 _ _ rfl rfl (Sim.refl _ _) (Sim.refl _ _) ?_; intro z n hr hb; rw [HPA.out] at hr; obtain rfl := sim_eq hr HZN.out; clear hr hb)
    refine (HEXC.out _).mono ?_
    rintro e w' ⟨C, n, rfl, rfl, hr, hb⟩
    obtain rfl := sim_eq hr HNC.out
    clear hr hb
    go_wp2_with fail
    refine (HLOG.out _).mono ?_
    rintro e w' ⟨L, n, rfl, rfl, hr, hbL⟩
    obtain rfl := sim_eq hr HLN.out
    have HFL := hid hbL
    clear hr hbL
    go_wp2_with (first
      | (refine wpList_up rfl _ _ _ rfl L rfl HFL.out u22 Try.underlying25 (Sim.refl _ _) ?_; intro l n hl hbl)
      | (refine wpList_up rfl _ _ _ rfl x rfl HXF.out u22 Try.underlying25 (Sim.refl _ _) ?_; intro r n hx hbx))
    refine (gapW _ _ _ _ _ (by with_reducible assumption) (by with_reducible assumption)).mono ?_
    rintro e w' ⟨g, n, rfl, rfl, hg, hgb⟩
    have ht := order_congr hg (Sim.refl .f64 4562254508917369340)
    have ho := HLO.out
    go_wp2_with (first
      | (refine wpList_up rfl _ _ _ rfl A rfl HFA.out u22 Try.underlying25 (Sim.refl _ _) ?_; intro r n hr hb; rw [HUA.out] at hr; obtain rfl := sim_eq hr HNA1.out; clear hr hb)
      | (refine wpList_up rfl _ _ _ rfl B rfl HFB.out u22 Try.underlying25 (Sim.refl _ _) ?_; intro r n hr hb; rw [HUB.out] at hr; obtain rfl := sim_eq hr HNB1.out; clear hr hb)
      | (refine wpList_up rfl _ _ _ rfl C rfl HFC.out u22 Try.underlying25 (Sim.refl _ _) ?_; intro r n hr hb; rw [HUC.out] at hr; obtain rfl := sim_eq hr HNC1.out; clear hr hb)
      | (refine wpList_fsim rfl .mul _ _ _ _ rfl rfl .f64 _ _ rfl rfl (Sim.refl _ _) (Sim.refl _ _) ?_; intro m n hm hbm))
    refine (gapW _ _ _ _ _ (by with_reducible assumption) (Sim.refl _ _)).mono ?_
    rintro e w' ⟨g2, n, rfl, rfl, hg2, hgb2⟩
    have HG2 := hid hg2
    have ho2 := HPO.out
    have hp := pos_gt0 hag
    have h11 := one_eq
    have h00 := zero_eq
    clear hg2 hgb2
    go_wp2_with (first
      | (refine wpList_up rfl _ _ _ rfl C rfl HFC.out u22 Try.underlying25 (Sim.refl _ _) ?_; intro r n hr hb; rw [HUC.out] at hr; obtain rfl := sim_eq hr HNC1.out; clear hr hb)
      | (refine wpList_fsim rfl .mul _ _ _ _ rfl rfl .f64 _ _ rfl rfl (Sim.refl _ _) (Sim.refl _ _) ?_; intro m2 n hm2 hbm2; rw [HM.out] at hm2; have ht2 := order_congr HG2.out hm2; clear hm2)
      | (go_at_call 25; refine (exp0 _).mono ?_; rintro e w' ⟨E, n, rfl, rfl, hr, hb⟩; obtain rfl := sim_eq hr nan_one; clear hr hb)
      | (go_at_call 29; refine (log1 _).mono ?_; rintro e w' ⟨E, n, rfl, rfl, hr, hb⟩; obtain rfl := sim_eq hr nan_zero; clear hr hb))
    go_ret
    exact ⟨rfl, below_drewN (Below.refl _ _) _⟩
end TryWalk
end Go.Proofs.Ytlabbakmlanfgaa
