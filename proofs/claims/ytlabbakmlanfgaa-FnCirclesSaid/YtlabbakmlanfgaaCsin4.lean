/- The law on SineTurns. No condition. -/
import Derived.Test.YtlabbakmlanfgaaCsin3
namespace Go.Proofs.Ytlabbakmlanfgaa
open Go.RowKit Flo Iee
set_option linter.unusedVariables false
namespace TryWalk
def big (y : Nat) : Bool := decide (2 ^ 52 * 2 ^ un ≤ mv Ieee.double (rung Ieee.double y))
def sineS (x : Nat) : Nat := if fin .f32 x then (if big (fconv .f32 x .f64) then 0 else fconv .f64 (sineF (fconv .f32 x .f64)) .f32) else qn .f32
theorem over_nanS {s k : FloatKind} {x : Nat} (h : NaN s x = true) : over s x k = false := by simp [over, h]
theorem fconv_qnS {s k : FloatKind} {x : Nat} (hne : s ≠ k) (h : NaN s x = true) : fconv s x k = qn k := by simp [fconv, fconv_nan hne h]
theorem notfin_up {x : Nat} (h : fin .f32 x = false) : fin .f64 (fconv .f32 x .f64) = false := by
  rcases three .f32 x with g | g | g
  · rw [fin_iff.2 g] at h; cases h
  · have hc := conv_inf (s := .f32) (k := .f64) (by decide) g
    have e : fconv .f32 x .f64 = FloatKind.f64.format.word (sgn FloatKind.f32.format x) FloatKind.f64.format.infRung := by simp [fconv, hc]
    have hi : FloatKind.f64.format.infRung < FloatKind.f64.format.signWeight := Ieee.Format.infRung_lt _
    rw [e, fin, rung_word _ _ hi]; simp
  · have := nan_fconv (s := .f32) (k := .f64) (by decide) g
    rw [nan_iff] at this
    have h2 := of_decide_eq_true this
    simp [fin]; omega
theorem notfin_sub {k : FloatKind} {y : Nat} (h : fin k y = false) : (k.format.order (fop .sub k y y) 0 != some .eq) = true := by
  have := isFin_eq k y
  rw [h] at this
  unfold isFin at this
  rw [bne, this]; rfl
/-- The reference's way at what is not finite. -/
theorem spNan (x Y : Nat) (w : World) (hs : Sim .f64 x Y) (hY : fin .f64 Y = false) : Calls Try.prog 81 #[.float .f64 x] w (fun e w' => e = .returned (.float .f64 9221120237041090561) ∧ ∃ n, w' = w.drewN n) := by
  have t0 := notfin_sub hY
  clear hY
  go_enter Try.func81, Try.ntmps81
  go_wp2_with (first | (go_at_call 55; refine (nanW _).mono ?_; rintro e w' ⟨rfl, rfl⟩) | (refine wpList_fsim rfl _ _ _ _ _ rfl rfl .f64 _ _ rfl rfl hs hs ?_; intro r n hr hb; have ht0 := order_congr hr (Sim.refl .f64 0)))
  go_ret
  exact ⟨rfl, _, rfl⟩
/-- The reference's way at what is at least 2^52. -/
theorem spBig (y : Nat) (h : FinW Ieee.double y) (hb : big y = true) : ∀ w, Calls Try.prog 81 #[.float .f64 y] w (fun e w' => e = .returned (.float .f64 0) ∧ ∃ n, w' = w.drewN n) := by
  intro w
  have t0 := fin_neq (k := .f64) h
  have hb' := of_decide_eq_true hb
  have e1 := ge_fin (k := .f64) h sv52.1
  have e2 := le_fin (k := .f64) h svm52.1
  have ha := natAbs_sv Ieee.double y
  have h2 : sv FloatKind.f64.format 4841369599423283200 = _ := sv52.2
  have h3 : sv FloatKind.f64.format 14064741636278059008 = _ := svm52.2
  rw [h2] at e1
  rw [h3] at e2
  have e4 : FloatKind.f64.format = Ieee.double := rfl
  by_cases hs : 0 ≤ sv Ieee.double y
  · have t3 : (FloatKind.f64.format.order y 4841369599423283200 == some .gt || FloatKind.f64.format.order y 4841369599423283200 == some .eq) = true := by
      rw [e1]; apply decide_eq_true
      rw [e4]
      generalize 2 ^ 52 * 2 ^ un = T at *
      omega
    clear e1 e2 hb hb' ha h2 h3 e4 hs
    go_enter Try.func81, Try.ntmps81
    go_wp2_with (refine wpList_fsim rfl _ _ _ _ _ rfl rfl .f64 _ _ rfl rfl (Sim.refl _ _) (Sim.refl _ _) ?_; intro r n hr hb; have ht0 := order_congr hr (Sim.refl .f64 0))
    go_ret
    exact ⟨rfl, _, rfl⟩
  · have t3 : (FloatKind.f64.format.order y 4841369599423283200 == some .gt || FloatKind.f64.format.order y 4841369599423283200 == some .eq) = false := by
      rw [e1]; apply decide_eq_false
      rw [e4]
      generalize 2 ^ 52 * 2 ^ un = T at *
      omega
    have t4 : (FloatKind.f64.format.order y 14064741636278059008 == some .lt || FloatKind.f64.format.order y 14064741636278059008 == some .eq) = true := by
      rw [e2]; apply decide_eq_true
      rw [e4]
      generalize 2 ^ 52 * 2 ^ un = T at *
      omega
    clear e1 e2 hb hb' ha h2 h3 e4 hs
    go_enter Try.func81, Try.ntmps81
    go_wp2_with (refine wpList_fsim rfl _ _ _ _ _ rfl rfl .f64 _ _ rfl rfl (Sim.refl _ _) (Sim.refl _ _) ?_; intro r n hr hb; have ht0 := order_congr hr (Sim.refl .f64 0))
    go_ret
    exact ⟨rfl, _, rfl⟩
theorem spSine (x : Nat) (w : World) (hx : Fits .f32 x) : Calls Try.prog 58 #[.float .f32 x] w (RetF .f32 (sineS x) w) := by
  cases hf : fin .f32 x
  · have hY := notfin_up hf
    have HE := hid (show sineS x = fconv .f64 9221120237041090561 .f32 by unfold sineS; rw [hf, fconv_qnS (by decide) nanW_nan]; rfl)
    clear hf
    go_enter Try.func58, Try.ntmps58
    go_wp2_with (first | (refine wpList_up rfl _ _ _ rfl _ rfl hx u22 Try.underlying25 (Sim.refl _ _) ?_; intro r n hr hb) | (go_at_call 81; refine (spNan _ _ _ (by with_reducible assumption) hY).mono ?_; rintro e w' ⟨rfl, n, rfl⟩) | (go_at_call 79; refine (narrowW _ _ _ (Sim.refl _ _) nanW_fits (over_nanS nanW_nan)).mono ?_; rintro e w' ⟨r, n, rfl, rfl, hr, hb⟩))
    go_ret
    exact ⟨_, _, rfl, rfl, by rw [HE.out]; assumption, by assumption⟩
  · have hfx := fin_iff.1 hf
    obtain ⟨g1, g2, g3, g4⟩ := fconv_up hfx
    have HN := hid (nan_of_fin (k := .f64) g1)
    cases hbig : big (fconv .f32 x .f64)
    · have hb : mv Ieee.double (rung Ieee.double (fconv .f32 x .f64)) < 2 ^ 52 * 2 ^ un := by
        have := of_decide_eq_false hbig
        generalize 2 ^ 52 * 2 ^ un = T at *
        omega
      have HE := hid (show sineS x = fconv .f64 (sineF (fconv .f32 x .f64)) .f32 by unfold sineS; rw [hf, hbig]; rfl)
      have HO := hid (bd_over (sine_bd (fracF_bd g1 hb)) (by omega))
      have HB := hid hb
      clear hf hbig g2 g3 g4 hb
      go_enter Try.func58, Try.ntmps58
      go_wp2_with (first | (refine wpList_up rfl _ _ _ rfl _ rfl hx u22 Try.underlying25 (Sim.refl _ _) ?_; intro r n hr hb; obtain rfl := sim_eq hr HN.out; clear hr) | (go_at_call 81; refine (spSineW _ _ g1 HB.out).mono ?_; rintro e w' ⟨r, n, rfl, rfl, hr, hb⟩) | (go_at_call 79; refine (narrowW _ _ _ (by with_reducible assumption) (by with_reducible assumption) HO.out).mono ?_; rintro e w' ⟨r, n, rfl, rfl, hr, hb⟩))
      go_ret
      exact ⟨_, _, rfl, rfl, by rw [HE.out]; assumption, by assumption⟩
    · have HE := hid (show sineS x = 0 by unfold sineS; rw [hf, hbig]; rfl)
      have HB := hid (spBig _ g1 hbig)
      clear hf hbig g2 g3 g4
      go_enter Try.func58, Try.ntmps58
      go_wp2_with (first | (refine wpList_up rfl _ _ _ rfl _ rfl hx u22 Try.underlying25 (Sim.refl _ _) ?_; intro r n hr hb; obtain rfl := sim_eq hr HN.out; clear hr) | (go_at_call 81; refine (HB.out _).mono ?_; rintro e w' ⟨rfl, n, rfl⟩) | (go_at_call 79; refine (narrowW 0 0 _ (Sim.refl _ _) (fits_of_wf (by decide)) (by decide +kernel)).mono ?_; rintro e w' ⟨r, n, rfl, rfl, hr, hb⟩))
      go_ret
      exact ⟨_, _, rfl, rfl, by rw [HE.out]; assumption, by assumption⟩

theorem spTop (x : Nat) (w : World) (hx : Fits .f32 x) : Calls Try.prog 30 #[.float .f32 x] w (RetF .f32 (sineS x) w) := by
  go_enter Try.func30, Try.ntmps30
  go_wp2_with (go_at_call 58; refine (spSine _ _ hx).mono ?_; rintro e w' ⟨r, n, rfl, rfl, hr, hb⟩)
  go_ret
  exact ⟨_, _, rfl, rfl, hr, hb⟩
theorem abs_ge {y : Nat} (h : FinW Ieee.double y) : (FloatKind.f64.format.order (y % 9223372036854775808) 4841369599423283200 == some .gt || FloatKind.f64.format.order (y % 9223372036854775808) 4841369599423283200 == some .eq) = big y := by
  have hf : FinW FloatKind.f64.format (y % 9223372036854775808) := by unfold FinW; rw [(abs_rung _).1]; exact h
  rw [ge_fin hf sv52.1, abs_sv]
  have h2 : sv FloatKind.f64.format 4841369599423283200 = _ := sv52.2
  rw [h2]
  unfold big
  rw [Bool.eq_iff_iff, decide_eq_true_eq, decide_eq_true_eq]
  exact Int.ofNat_le
theorem imSine (x : Nat) (w : World) (hx : Fits .f32 x) : Calls Try.prog 31 #[.float .f32 x] w (RetF .f32 (sineS x) w) := by
  cases hf : fin .f32 x
  · have HE := hid (show sineS x = fconv .f64 9221120237041090561 .f32 by unfold sineS; rw [hf, fconv_qnS (by decide) nanW_nan]; rfl)
    have HO := hid (over_nanS (s := .f64) (k := .f32) nanW_nan)
    go_enter Try.func31, Try.ntmps31
    go_wp2_with (first | (go_at_call 56; refine (implFinite _ _).mono ?_; rintro e w' ⟨rfl, n, rfl⟩) | (go_at_call 55; refine (nanW _).mono ?_; rintro e w' ⟨rfl, rfl⟩) | (refine wpList_fcsim rfl _ _ _ rfl .f64 .f32 _ rfl nanW_fits u25 Try.underlying22 (by decide) (Sim.refl _ _) ?_; intro r n hr hb))
    go_ret
    exact ⟨_, _, rfl, rfl, by rw [HE.out]; exact hr HO.out, hb⟩
  · have hfx := fin_iff.1 hf
    obtain ⟨g1, g2, g3, g4⟩ := fconv_up hfx
    have HN := hid (nan_of_fin (k := .f64) g1)
    have ha := abs_ge g1
    cases hbig : big (fconv .f32 x .f64)
    · have hb : mv Ieee.double (rung Ieee.double (fconv .f32 x .f64)) < 2 ^ 52 * 2 ^ un := by
        have := of_decide_eq_false hbig
        generalize 2 ^ 52 * 2 ^ un = T at *
        omega
      have HE := hid (show sineS x = fconv .f64 (sineF (fconv .f32 x .f64)) .f32 by unfold sineS; rw [hf, hbig]; rfl)
      have HO := hid (bd_over (sine_bd (fracF_bd g1 hb)) (by omega))
      have HB := hid hb
      rw [hbig] at ha
      clear hbig g2 g3 g4 hb
      go_enter Try.func31, Try.ntmps31
      go_wp2_with (first | (go_at_call 56; refine (implFinite _ _).mono ?_; rintro e w' ⟨rfl, n, rfl⟩) | (refine wpList_up rfl _ _ _ rfl _ rfl hx u22 Try.underlying25 (Sim.refl _ _) ?_; intro r n hr hb; obtain rfl := sim_eq hr HN.out; clear hr) | (go_at_call 59; refine (absW _ _ ?_).mono ?_; (exact fits64 (by with_reducible assumption)); rintro e w' ⟨rfl, rfl⟩) | (go_at_call 60; refine (sineW _ _ (by with_reducible assumption) g1 HB.out).mono ?_; rintro e w' ⟨r, n, rfl, rfl, hr, hb⟩) | (refine wpList_fcsim rfl _ _ _ rfl .f64 .f32 _ rfl (by with_reducible assumption) u25 Try.underlying22 (by decide) (by with_reducible assumption) ?_; intro r n hr hb))
      go_ret
      exact ⟨_, _, rfl, rfl, by rw [HE.out]; exact hr HO.out, hb⟩
    · have HE := hid (show sineS x = 0 by unfold sineS; rw [hf, hbig]; rfl)
      rw [hbig] at ha
      clear hbig g2 g3 g4
      go_enter Try.func31, Try.ntmps31
      go_wp2_with (first | (go_at_call 56; refine (implFinite _ _).mono ?_; rintro e w' ⟨rfl, n, rfl⟩) | (refine wpList_up rfl _ _ _ rfl _ rfl hx u22 Try.underlying25 (Sim.refl _ _) ?_; intro r n hr hb; obtain rfl := sim_eq hr HN.out; clear hr) | (go_at_call 59; refine (absW _ _ ?_).mono ?_; (exact fits64 (by with_reducible assumption)); rintro e w' ⟨rfl, rfl⟩))
      go_ret
      exact ⟨0, _, rfl, rfl, by rw [HE.out]; exact Sim.refl _ _, fits_of_wf (by decide)⟩

theorem fnExactSineTurns (x : Nat) (w : World) (hx : (Lit.float .f32 x).wf = true) : Calls Try.prog 8 #[.float .f32 x] w fun e w' => e = .returned (.bool true) ∧ Below w.heap.size w w' := by
  have hf := fits_of_wf hx
  clear hx
  go_enter Try.func8, Try.ntmps8
  go_wp2_with (first | (go_at_call 30; refine (spTop _ _ hf).mono ?_; rintro e w' ⟨r, n, rfl, rfl, hr, hb⟩) | (go_at_call 31; refine (imSine _ _ hf).mono ?_; rintro e w' ⟨r, n, rfl, rfl, hr, hb⟩) | (refine wpList_up rfl _ _ _ rfl _ rfl (by with_reducible assumption) u22 Try.underlying25 (by with_reducible assumption) ?_; intro r n hr hb) | (go_at_call 17; refine (sameFloat _ _ _ (Sim.trans (by with_reducible assumption) (Sim.symm (by with_reducible assumption)))).mono ?_; rintro e w' ⟨rfl, n, rfl⟩))
  go_ret
  exact ⟨rfl, below_drewN (Below.refl _ _) _⟩
end TryWalk
end Go.Proofs.Ytlabbakmlanfgaa
