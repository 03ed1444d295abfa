/- The law on LogNumber: the walks. No condition. -/
import Derived.Test.YtlabbakmlanfgaaWlog2
namespace Go.Proofs.Ytlabbakmlanfgaa
open Go.RowKit Flo Iee
set_option linter.unusedVariables false
namespace TryWalk
theorem lE_rng {y : Nat} (h1 : 3936146074321813504 ≤ y) (h2 : y < 5183643171103440896) : T075 ≤ lB y ∧ lB y < T15 ∧ -256 ≤ lE y ∧ lE y ≤ 256 := by
  have e1 : ((T075 : Nat) : Int) = 4604930618986332160 := rfl
  have e2 : T15 = 4609434218613702656 := rfl
  have e3 : T075 = 4604930618986332160 := rfl
  have e4 : (BB : Int) = 4503599627370496 := rfl
  unfold lB lE
  rw [e1, e4, e2, e3]
  omega
theorem log_ok {y : Nat} (h1 : 3936146074321813504 ≤ y) (h2 : y < 5183643171103440896) : Bd 1031 (logF y) := by
  obtain ⟨a, b, c, d⟩ := lE_rng h1 h2
  exact log_bd a b c d
theorem fits_inf : Fits .f64 18442240474082181120 := fits_of_wf (by decide)
theorem inf_over : over .f64 18442240474082181120 .f32 = false := by decide +kernel
theorem nan_over : over .f64 9221120237041090561 .f32 = false := over_nan nanW_nan

/-! ### the reference's wide logarithm at what is not positive and finite -/
theorem sp83nan (r Y : Nat) (w : World) (hs : Sim .f64 r Y) (hY : NaN .f64 Y = true) : Calls Try.prog 83 #[.float .f64 r] w fun e w' => e = .returned (.float .f64 9221120237041090561) ∧ w = w' := by
  have t := order_self_neq .f64 r
  rw [Sim.nan hs, hY] at t
  clear hs hY
  go_enter Try.func83, Try.ntmps83
  go_wp2_with (go_at_call 55; refine (nanW _).mono ?_; rintro e w' ⟨rfl, rfl⟩)
  go_ret
  exact ⟨rfl, rfl⟩
theorem sp83zero (y : Nat) (w : World) (y1 : (FloatKind.f64.format.order y y != some .eq) = false) (y2 : (FloatKind.f64.format.order y 0 == some .lt) = false) (y3 : (FloatKind.f64.format.order y 0 == some .eq) = true) : Calls Try.prog 83 #[.float .f64 y] w fun e w' => e = .returned (.float .f64 18442240474082181120) ∧ w = w' := by
  go_enter Try.func83, Try.ntmps83
  go_wp2_with (go_at_call 54; refine (infW _).mono ?_; rintro e w' ⟨rfl, rfl⟩)
  go_ret
  exact ⟨rfl, rfl⟩
theorem sp83neg (y : Nat) (w : World) (y1 : (FloatKind.f64.format.order y y != some .eq) = false) (y2 : (FloatKind.f64.format.order y 0 == some .lt) = true) : Calls Try.prog 83 #[.float .f64 y] w fun e w' => e = .returned (.float .f64 9221120237041090561) ∧ w = w' := by
  go_enter Try.func83, Try.ntmps83
  go_wp2_with (go_at_call 55; refine (nanW _).mono ?_; rintro e w' ⟨rfl, rfl⟩)
  go_ret
  exact ⟨rfl, rfl⟩
theorem sp83inf (y : Nat) (w : World) (y1 : (FloatKind.f64.format.order y y != some .eq) = false) (y2 : (FloatKind.f64.format.order y 0 == some .lt) = false) (y3 : (FloatKind.f64.format.order y 0 == some .eq) = false) (y4 : (FloatKind.f64.format.order y 9218868437227405311 == some .gt) = true) : Calls Try.prog 83 #[.float .f64 y] w fun e w' => e = .returned (.float .f64 y) ∧ w = w' := by
  go_enter Try.func83, Try.ntmps83
  go_wp2_with (go_at_call 89; refine (isInfW _ _ _ y4).mono ?_; rintro e w' ⟨rfl, rfl⟩)
  go_ret
  exact ⟨rfl, rfl⟩

/-- What the logarithm of a small-kind float is. -/
def LogS (x F : Nat) : Prop := (∀ w, Calls Try.prog 34 #[.float .f32 x] w (RetF .f32 F w)) ∧ ∀ w, Calls Try.prog 29 #[.float .f32 x] w (RetF .f32 F w)
theorem top_of (x F : Nat) (h : ∀ w, Calls Try.prog 63 #[.float .f32 x] w (RetF .f32 F w)) (w : World) : Calls Try.prog 34 #[.float .f32 x] w (RetF .f32 F w) := by
  have H := hid h
  clear h
  go_enter Try.func34, Try.ntmps34
  go_wp2_with (go_at_call 63; refine (H.out _).mono ?_; rintro e w' ⟨r, n, rfl, rfl, hr, hb⟩)
  go_ret
  exact ⟨_, _, rfl, rfl, hr, hb⟩
theorem logNan (x : Nat) (hf : Fits .f32 x) (h : NaN .f32 x = true) : LogS x (fconv .f64 9221120237041090561 .f32) := by
  have hY := nan_fconv (s := .f32) (k := .f64) (by decide) h
  refine ⟨top_of _ _ fun w => ?_, fun w => ?_⟩
  · clear h
    go_enter Try.func63, Try.ntmps63
    go_wp2_with (first | (refine wpList_up rfl _ _ _ rfl _ rfl hf u22 Try.underlying25 (Sim.refl _ _) ?_; intro r n hr hb) | (go_at_call 83; refine (sp83nan _ _ _ (by with_reducible assumption) hY).mono ?_; rintro e w' ⟨rfl, rfl⟩) | (go_at_call 79; refine (narrowW _ _ _ (Sim.refl _ _) nanW_fits nan_over).mono ?_; rintro e w' ⟨r, n, rfl, rfl, hr, hb⟩))
    go_ret
    exact ⟨_, _, rfl, rfl, hr, hb⟩
  · have t := order_self_neq .f32 x
    rw [h] at t
    have t0 : (FloatKind.f32.format.order x 0 == some .eq) = false := by rw [order_nan_left h]; rfl
    have t1 : (FloatKind.f32.format.order x 0 == some .lt) = false := by rw [order_nan_left h]; rfl
    clear h hY
    go_enter Try.func29, Try.ntmps29
    go_wp2_with (first | (go_at_call 55; refine (nanW _).mono ?_; rintro e w' ⟨rfl, rfl⟩) | (refine wpList_fcsim rfl _ _ _ rfl .f64 .f32 _ rfl nanW_fits u25 Try.underlying22 (by decide) (Sim.refl _ _) ?_; intro r n hr hb))
    go_ret
    exact ⟨_, _, rfl, rfl, hr nan_over, hb⟩
theorem logZero (x : Nat) (hf : Fits .f32 x) (h : Zero x) : LogS x (fconv .f64 18442240474082181120 .f32) := by
  obtain ⟨x0, y1, y2, y3, yn⟩ := h
  refine ⟨top_of _ _ fun w => ?_, fun w => ?_⟩
  · have HN := hid yn
    clear x0 yn
    go_enter Try.func63, Try.ntmps63
    go_wp2_with (first | (refine wpList_up rfl _ _ _ rfl _ rfl hf u22 Try.underlying25 (Sim.refl _ _) ?_; intro r n hr hb; have hx := (sim_eq hr HN.out).symm; subst hx; clear hr) | (go_at_call 83; refine (sp83zero _ _ y1 y2 y3).mono ?_; rintro e w' ⟨rfl, rfl⟩) | (go_at_call 79; refine (narrowW _ _ _ (Sim.refl _ _) fits_inf inf_over).mono ?_; rintro e w' ⟨r, n, rfl, rfl, hr, hb⟩))
    go_ret
    exact ⟨_, _, rfl, rfl, hr, hb⟩
  · clear y1 y2 y3 yn
    go_enter Try.func29, Try.ntmps29
    go_wp2_with (first | (go_at_call 54; refine (infW _).mono ?_; rintro e w' ⟨rfl, rfl⟩) | (refine wpList_fcsim rfl _ _ _ rfl .f64 .f32 _ rfl fits_inf u25 Try.underlying22 (by decide) (Sim.refl _ _) ?_; intro r n hr hb))
    go_ret
    exact ⟨_, _, rfl, rfl, hr inf_over, hb⟩
theorem logNeg (x : Nat) (hf : Fits .f32 x) (h : Neg x) : LogS x (fconv .f64 9221120237041090561 .f32) := by
  obtain ⟨x0, x1, y1, y2, yn⟩ := h
  refine ⟨top_of _ _ fun w => ?_, fun w => ?_⟩
  · have HN := hid yn
    clear x0 x1 yn
    go_enter Try.func63, Try.ntmps63
    go_wp2_with (first | (refine wpList_up rfl _ _ _ rfl _ rfl hf u22 Try.underlying25 (Sim.refl _ _) ?_; intro r n hr hb; have hx := (sim_eq hr HN.out).symm; subst hx; clear hr) | (go_at_call 83; refine (sp83neg _ _ y1 y2).mono ?_; rintro e w' ⟨rfl, rfl⟩) | (go_at_call 79; refine (narrowW _ _ _ (Sim.refl _ _) nanW_fits nan_over).mono ?_; rintro e w' ⟨r, n, rfl, rfl, hr, hb⟩))
    go_ret
    exact ⟨_, _, rfl, rfl, hr, hb⟩
  · clear y1 y2 yn
    go_enter Try.func29, Try.ntmps29
    go_wp2_with (first | (go_at_call 55; refine (nanW _).mono ?_; rintro e w' ⟨rfl, rfl⟩) | (refine wpList_fcsim rfl _ _ _ rfl .f64 .f32 _ rfl nanW_fits u25 Try.underlying22 (by decide) (Sim.refl _ _) ?_; intro r n hr hb))
    go_ret
    exact ⟨_, _, rfl, rfl, hr nan_over, hb⟩
theorem logInf (x : Nat) (hf : Fits .f32 x) (h : Inf x) : LogS x x := by
  obtain ⟨x0, x1, x2, xf, y1, y2, y3, y4, yn, back⟩ := h
  refine ⟨top_of _ _ fun w => ?_, fun w => ?_⟩
  · have HN := hid yn
    have HB := hid back
    have HF := hid (fits_fconv (k := .f64) hf)
    clear x0 x1 x2 xf yn back
    go_enter Try.func63, Try.ntmps63
    go_wp2_with (first | (refine wpList_up rfl _ _ _ rfl _ rfl hf u22 Try.underlying25 (Sim.refl _ _) ?_; intro r n hr hb; have hx := (sim_eq hr HN.out).symm; subst hx; clear hr) | (go_at_call 83; refine (sp83inf _ _ y1 y2 y3 y4).mono ?_; rintro e w' ⟨rfl, rfl⟩) | (go_at_call 79; refine (narrowW _ _ _ (Sim.refl _ _) HF.out HB.out.2).mono ?_; rintro e w' ⟨r, n, rfl, rfl, hr, hb⟩))
    go_ret
    exact ⟨_, _, rfl, rfl, by rw [HB.out.1] at hr; exact hr, hb⟩
  · clear y1 y2 y3 y4 yn back
    go_enter Try.func29, Try.ntmps29
    go_wp2_with (go_at_call 56; refine (implFinite _ _).mono ?_; rintro e w' ⟨rfl, n, rfl⟩)
    go_ret
    exact ⟨_, _, rfl, rfl, Sim.refl _ _, hf⟩
theorem logPos (x : Nat) (hf : Fits .f32 x) (h : Pos x) : LogS x (fconv .f64 (logF (fconv .f32 x .f64)) .f32) := by
  obtain ⟨x0, x1, x2, xf, lo, hi, yn⟩ := h
  have HO := hid (bd_over (log_ok lo hi) (by omega))
  have HN := hid yn
  have HL := hid lo
  have HH := hid hi
  clear lo hi yn
  refine ⟨top_of _ _ fun w => ?_, fun w => ?_⟩
  · clear x0 x1 x2 xf
    go_enter Try.func63, Try.ntmps63
    go_wp2_with (first | (refine wpList_up rfl _ _ _ rfl _ rfl hf u22 Try.underlying25 (Sim.refl _ _) ?_; intro r n hr hb; have hx := (sim_eq hr HN.out).symm; subst hx; clear hr) | (go_at_call 83; refine (spLogW _ _ HL.out HH.out).mono ?_; rintro e w' ⟨r, n, rfl, rfl, hr, hb⟩) | (go_at_call 79; refine (narrowW _ _ _ (by with_reducible assumption) (by with_reducible assumption) HO.out).mono ?_; rintro e w' ⟨r, n, rfl, rfl, hr, hb⟩))
    go_ret
    exact ⟨_, _, rfl, rfl, hr, hb⟩
  · go_enter Try.func29, Try.ntmps29
    go_wp2_with (first | (go_at_call 56; refine (implFinite _ _).mono ?_; rintro e w' ⟨rfl, n, rfl⟩) | (refine wpList_up rfl _ _ _ rfl _ rfl hf u22 Try.underlying25 (Sim.refl _ _) ?_; intro r n hr hb; have hx := (sim_eq hr HN.out).symm; subst hx; clear hr) | (go_at_call 57; refine (natLogW _ _ HL.out HH.out).mono ?_; rintro e w' ⟨r, n, rfl, rfl, hr, hb⟩) | (refine wpList_fcsim rfl _ _ _ rfl .f64 .f32 _ rfl (by with_reducible assumption) u25 Try.underlying22 (by decide) (by with_reducible assumption) ?_; intro r n hr hb))
    go_ret
    exact ⟨_, _, rfl, rfl, hr HO.out, hb⟩
theorem logAll (x : Nat) (hf : Fits .f32 x) : ∃ F, LogS x F := by
  rcases kinds x hf with h | h | h | h | h
  · exact ⟨_, logNan x hf h⟩
  · exact ⟨_, logZero x hf h⟩
  · exact ⟨_, logNeg x hf h⟩
  · exact ⟨_, logInf x hf h⟩
  · exact ⟨_, logPos x hf h⟩
theorem fnExactLogNumber (x : Nat) (w : World) (hx : (Lit.float .f32 x).wf = true) : Calls Try.prog 10 #[.float .f32 x] w fun e w' => e = .returned (.bool true) ∧ Below w.heap.size w w' := by
  have hf := fits_of_wf hx
  obtain ⟨F, hF⟩ := logAll x hf
  have H := hid hF
  clear hx hF
  go_enter Try.func10, Try.ntmps10
  go_wp2_with (first | (go_at_call 34; refine (H.out.1 _).mono ?_; rintro e w' ⟨r, n, rfl, rfl, hr, hb⟩) | (go_at_call 29; refine (H.out.2 _).mono ?_; rintro e w' ⟨r, n, rfl, rfl, hr, hb⟩) | (refine wpList_up rfl _ _ _ rfl _ rfl (by with_reducible assumption) u22 Try.underlying25 (by with_reducible assumption) ?_; intro r n hr hb) | (go_at_call 17; refine (sameFloat _ _ _ (Sim.trans (by with_reducible assumption) (Sim.symm (by with_reducible assumption)))).mono ?_; rintro e w' ⟨rfl, n, rfl⟩))
  go_ret
  exact ⟨rfl, below_drewN (Below.refl _ _) _⟩
end TryWalk
end Go.Proofs.Ytlabbakmlanfgaa
