/- The angle's walks. No condition. -/
import Derived.Test.YtlabbakmlanfgaaCfang
namespace Go.Proofs.Ytlabbakmlanfgaa
open Go.RowKit Flo Iee
set_option linter.unusedVariables false
namespace TryWalk
theorem neg64A (k : FloatKind) (b : Nat) : Op.unary .neg (.float k b) = pure (.float k (fneg k b)) := rfl
theorem fits_fconvA {s k : FloatKind} {x : Nat} (h : Fits s x) : Fits k (fconv s x k) := by
  unfold fconv
  cases hc : floatToFloatBits s x k with
  | some r => exact fits_of_wf (floatToFloatBits_wf (wf_of_fits h) hc)
  | none => cases k <;> exact fits_of_wf (by decide)
theorem fin_neqA {y : Nat} (h : FinW Ieee.double y) : (FloatKind.f64.format.order (fop .sub .f64 y y) 0 != some .eq) = false := by
  have := isFin_eq .f64 y
  rw [fin_iff (k := .f64).2 h] at this
  unfold isFin at this
  rw [bne, this]; rfl
set_option maxHeartbeats 2000000 in
theorem imAng000 (x y : Nat) (w : World) (hfx : Fits .f32 x) (hfy : Fits .f32 y) (gx : FinW Ieee.double (fconv .f32 x .f64)) (gy : FinW Ieee.double (fconv .f32 y .f64)) (ho : (FloatKind.f64.format.order (fconv .f32 y .f64 % 9223372036854775808) (fconv .f32 x .f64 % 9223372036854775808) == some .gt) = false) (hfinx : fin .f32 x = true) (hfiny : fin .f32 y = true) (hsx : (FloatKind.f32.format.order x 0 == some .lt) = false) (hsy : (FloatKind.f32.format.order y 0 == some .lt) = false) (zx : Bool) (hzx : (FloatKind.f32.format.order x 0 == some .eq) = zx) (hzy : zx = true → (FloatKind.f32.format.order y 0 == some .eq) = false) (hov : over .f64 (An3 false false false (fop .quo .f64 (fconv .f32 y .f64 % 9223372036854775808) (fconv .f32 x .f64 % 9223372036854775808))) .f32 = false) : Calls Try.prog 41 #[.float .f32 y, .float .f32 x] w (RetF .f32 (fconv .f64 (An3 false false false (fop .quo .f64 (fconv .f32 y .f64 % 9223372036854775808) (fconv .f32 x .f64 % 9223372036854775808))) .f32) w) := by
  have hneg := neg64A
  have HNx := hid (nan_of_fin (k := .f64) gx)
  have HNy := hid (nan_of_fin (k := .f64) gy)
  have E3 := hid (show An3 false false false (fop .quo .f64 (fconv .f32 y .f64 % 9223372036854775808) (fconv .f32 x .f64 % 9223372036854775808)) = fop .quo .f64 (fop .mul .f64 eight (fop .mul .f64 (tS (fop .quo .f64 (fconv .f32 y .f64 % 9223372036854775808) (fconv .f32 x .f64 % 9223372036854775808)) 3) (pA (fop .mul .f64 (tS (fop .quo .f64 (fconv .f32 y .f64 % 9223372036854775808) (fconv .f32 x .f64 % 9223372036854775808)) 3) (tS (fop .quo .f64 (fconv .f32 y .f64 % 9223372036854775808) (fconv .f32 x .f64 % 9223372036854775808)) 3)) 8))) twoPiA from rfl)
  have HO := hid hov
  clear gx gy hov
  cases zx
  · clear hzy
    go_enter Try.func41, Try.ntmps41
    go_wp2_with (first | (go_at_call 56; refine (implFinite _ _).mono ?_; rintro e w' ⟨rfl, n, rfl⟩) | (refine wpList_up rfl _ _ _ rfl _ rfl (by with_reducible assumption) u22 Try.underlying25 (Sim.refl _ _) ?_; intro r n hr hb; first | (have hx := (sim_eq hr HNx.out).symm; subst hx; clear hr) | (have hx := (sim_eq hr HNy.out).symm; subst hx; clear hr)) | (go_at_call 59; refine (absW _ _ ?_).mono ?_; (exact fits64 (by with_reducible assumption)); rintro e w' ⟨rfl, rfl⟩) | (refine wpList_fsim rfl _ _ _ _ _ rfl rfl .f64 _ _ rfl rfl (by first | with_reducible assumption | exact Sim.refl _ _) (by first | with_reducible assumption | exact Sim.refl _ _) ?_; intro r n hr hb))
    go_loopw [7, 43] (fun t k wr => ∃ (i q n : Nat), i ≤ 3 ∧ k = .int .i64 i ∧ t = .float .f64 q ∧ Sim .f64 q (tS (fop .quo .f64 (fconv .f32 y .f64 % 9223372036854775808) (fconv .f32 x .f64 % 9223372036854775808)) i) ∧ wr = w.drewN n) (fun _ k _ => 3 - (intOf k).toNat)
    case atStart => exact ⟨0, _, _, by omega, rfl, rfl, by show Sim _ _ (fop .quo .f64 (fconv .f32 y .f64 % 9223372036854775808) (fconv .f32 x .f64 % 9223372036854775808)); with_reducible assumption, rfl⟩
    case round =>
      obtain ⟨j, q, n, hi, rfl, rfl, hq, rfl⟩ := hrel
      by_cases hlt : j < 3
      · go_wp2_with (first | (go_at_call 62; refine (sqrtW _ _ _ (by with_reducible assumption)).mono ?_; rintro e w' ⟨r, n, rfl, rfl, hr, hb⟩) | (refine wpList_fsim rfl _ _ _ _ _ rfl rfl .f64 _ _ rfl rfl (by first | with_reducible assumption | exact Sim.refl _ _) (by first | with_reducible assumption | exact Sim.refl _ _) ?_; intro r n hr hb))
        go_roundw
        case rel => exact ⟨j + 1, _, _, by omega, by go_num, rfl, by show Sim _ _ (fop .quo .f64 (tS (fop .quo .f64 (fconv .f32 y .f64 % 9223372036854775808) (fconv .f32 x .f64 % 9223372036854775808)) j) (den (tS (fop .quo .f64 (fconv .f32 y .f64 % 9223372036854775808) (fconv .f32 x .f64 % 9223372036854775808)) j))); unfold den; with_reducible assumption, rfl⟩
        case measure => simp [intOf]; omega
      · obtain rfl : j = 3 := by omega
        go_wp2_with (refine wpList_fsim rfl _ _ _ _ _ rfl rfl .f64 _ _ rfl rfl (by first | with_reducible assumption | exact Sim.refl _ _) (by first | with_reducible assumption | exact Sim.refl _ _) ?_; intro r n hr hb)
        go_loopw [9, 10] (fun p k wr => ∃ (i q n : Nat), i ≤ 8 ∧ k = .float .f64 (ak i) ∧ p = .float .f64 q ∧ Sim .f64 q (pA (fop .mul .f64 (tS (fop .quo .f64 (fconv .f32 y .f64 % 9223372036854775808) (fconv .f32 x .f64 % 9223372036854775808)) 3) (tS (fop .quo .f64 (fconv .f32 y .f64 % 9223372036854775808) (fconv .f32 x .f64 % 9223372036854775808)) 3)) i) ∧ wr = w.drewN n) (fun _ k _ => akM k)
        case atStart => exact ⟨0, 0, _, by omega, rfl, rfl, Sim.refl _ _, rfl⟩
        case round =>
          obtain ⟨i, q2, n2, hi2, rfl, rfl, hq2, rfl⟩ := hrel
          by_cases hlt2 : i < 8
          · skip
            have hk := ak_ge i hlt2
            have HK := hid (ak_nan (i + 1) (by omega))
            have HD := hid (akM_dec i hlt2)
            go_wp2_with (refine wpList_fsim rfl _ _ _ _ _ rfl rfl .f64 _ _ rfl rfl (by first | with_reducible assumption | exact Sim.refl _ _) (by first | with_reducible assumption | exact Sim.refl _ _) ?_; intro r n hr hb)
            have hx := (sim_eq (show Sim .f64 r (ak (i + 1)) from hr) HK.out).symm
            subst hx
            go_roundw
            case rel => exact ⟨i + 1, _, _, by omega, rfl, rfl, by show Sim _ _ (fop .sub .f64 (fop .quo .f64 one (ak i)) (fop .mul .f64 (fop .mul .f64 (tS (fop .quo .f64 (fconv .f32 y .f64 % 9223372036854775808) (fconv .f32 x .f64 % 9223372036854775808)) 3) (tS (fop .quo .f64 (fconv .f32 y .f64 % 9223372036854775808) (fconv .f32 x .f64 % 9223372036854775808)) 3)) (pA (fop .mul .f64 (tS (fop .quo .f64 (fconv .f32 y .f64 % 9223372036854775808) (fconv .f32 x .f64 % 9223372036854775808)) 3) (tS (fop .quo .f64 (fconv .f32 y .f64 % 9223372036854775808) (fconv .f32 x .f64 % 9223372036854775808)) 3)) i))); with_reducible assumption, rfl⟩
            case measure => exact HD.out
          · obtain rfl : i = 8 := by omega
            have hk := ak_end
            go_wp2_with (first | (refine wpList_fcsim rfl _ _ _ rfl .f64 .f32 _ rfl (by first | with_reducible assumption | exact fits_neg (by with_reducible assumption)) u25 Try.underlying22 (by decide) (by first | with_reducible assumption | exact sim_neg (by with_reducible assumption) (fits_fop ..) (by with_reducible assumption)) ?_; intro r n hr hb) | (refine wpList_fsim rfl _ _ _ _ _ rfl rfl .f64 _ _ rfl rfl (by first | with_reducible assumption | exact Sim.refl _ _) (by first | with_reducible assumption | exact Sim.refl _ _) ?_; intro r n hr hb))
            go_ret
            exact ⟨_, _, rfl, rfl, by rw [E3.out]; exact hr (by rw [← E3.out]; exact HO.out), hb⟩
  · have hzy2 := hzy rfl
    clear hzy
    go_enter Try.func41, Try.ntmps41
    go_wp2_with (first | (go_at_call 56; refine (implFinite _ _).mono ?_; rintro e w' ⟨rfl, n, rfl⟩) | (refine wpList_up rfl _ _ _ rfl _ rfl (by with_reducible assumption) u22 Try.underlying25 (Sim.refl _ _) ?_; intro r n hr hb; first | (have hx := (sim_eq hr HNx.out).symm; subst hx; clear hr) | (have hx := (sim_eq hr HNy.out).symm; subst hx; clear hr)) | (go_at_call 59; refine (absW _ _ ?_).mono ?_; (exact fits64 (by with_reducible assumption)); rintro e w' ⟨rfl, rfl⟩) | (refine wpList_fsim rfl _ _ _ _ _ rfl rfl .f64 _ _ rfl rfl (by first | with_reducible assumption | exact Sim.refl _ _) (by first | with_reducible assumption | exact Sim.refl _ _) ?_; intro r n hr hb))
    go_loopw [7, 43] (fun t k wr => ∃ (i q n : Nat), i ≤ 3 ∧ k = .int .i64 i ∧ t = .float .f64 q ∧ Sim .f64 q (tS (fop .quo .f64 (fconv .f32 y .f64 % 9223372036854775808) (fconv .f32 x .f64 % 9223372036854775808)) i) ∧ wr = w.drewN n) (fun _ k _ => 3 - (intOf k).toNat)
    case atStart => exact ⟨0, _, _, by omega, rfl, rfl, by show Sim _ _ (fop .quo .f64 (fconv .f32 y .f64 % 9223372036854775808) (fconv .f32 x .f64 % 9223372036854775808)); with_reducible assumption, rfl⟩
    case round =>
      obtain ⟨j, q, n, hi, rfl, rfl, hq, rfl⟩ := hrel
      by_cases hlt : j < 3
      · go_wp2_with (first | (go_at_call 62; refine (sqrtW _ _ _ (by with_reducible assumption)).mono ?_; rintro e w' ⟨r, n, rfl, rfl, hr, hb⟩) | (refine wpList_fsim rfl _ _ _ _ _ rfl rfl .f64 _ _ rfl rfl (by first | with_reducible assumption | exact Sim.refl _ _) (by first | with_reducible assumption | exact Sim.refl _ _) ?_; intro r n hr hb))
        go_roundw
        case rel => exact ⟨j + 1, _, _, by omega, by go_num, rfl, by show Sim _ _ (fop .quo .f64 (tS (fop .quo .f64 (fconv .f32 y .f64 % 9223372036854775808) (fconv .f32 x .f64 % 9223372036854775808)) j) (den (tS (fop .quo .f64 (fconv .f32 y .f64 % 9223372036854775808) (fconv .f32 x .f64 % 9223372036854775808)) j))); unfold den; with_reducible assumption, rfl⟩
        case measure => simp [intOf]; omega
      · obtain rfl : j = 3 := by omega
        go_wp2_with (refine wpList_fsim rfl _ _ _ _ _ rfl rfl .f64 _ _ rfl rfl (by first | with_reducible assumption | exact Sim.refl _ _) (by first | with_reducible assumption | exact Sim.refl _ _) ?_; intro r n hr hb)
        go_loopw [9, 10] (fun p k wr => ∃ (i q n : Nat), i ≤ 8 ∧ k = .float .f64 (ak i) ∧ p = .float .f64 q ∧ Sim .f64 q (pA (fop .mul .f64 (tS (fop .quo .f64 (fconv .f32 y .f64 % 9223372036854775808) (fconv .f32 x .f64 % 9223372036854775808)) 3) (tS (fop .quo .f64 (fconv .f32 y .f64 % 9223372036854775808) (fconv .f32 x .f64 % 9223372036854775808)) 3)) i) ∧ wr = w.drewN n) (fun _ k _ => akM k)
        case atStart => exact ⟨0, 0, _, by omega, rfl, rfl, Sim.refl _ _, rfl⟩
        case round =>
          obtain ⟨i, q2, n2, hi2, rfl, rfl, hq2, rfl⟩ := hrel
          by_cases hlt2 : i < 8
          · skip
            have hk := ak_ge i hlt2
            have HK := hid (ak_nan (i + 1) (by omega))
            have HD := hid (akM_dec i hlt2)
            go_wp2_with (refine wpList_fsim rfl _ _ _ _ _ rfl rfl .f64 _ _ rfl rfl (by first | with_reducible assumption | exact Sim.refl _ _) (by first | with_reducible assumption | exact Sim.refl _ _) ?_; intro r n hr hb)
            have hx := (sim_eq (show Sim .f64 r (ak (i + 1)) from hr) HK.out).symm
            subst hx
            go_roundw
            case rel => exact ⟨i + 1, _, _, by omega, rfl, rfl, by show Sim _ _ (fop .sub .f64 (fop .quo .f64 one (ak i)) (fop .mul .f64 (fop .mul .f64 (tS (fop .quo .f64 (fconv .f32 y .f64 % 9223372036854775808) (fconv .f32 x .f64 % 9223372036854775808)) 3) (tS (fop .quo .f64 (fconv .f32 y .f64 % 9223372036854775808) (fconv .f32 x .f64 % 9223372036854775808)) 3)) (pA (fop .mul .f64 (tS (fop .quo .f64 (fconv .f32 y .f64 % 9223372036854775808) (fconv .f32 x .f64 % 9223372036854775808)) 3) (tS (fop .quo .f64 (fconv .f32 y .f64 % 9223372036854775808) (fconv .f32 x .f64 % 9223372036854775808)) 3)) i))); with_reducible assumption, rfl⟩
            case measure => exact HD.out
          · obtain rfl : i = 8 := by omega
            have hk := ak_end
            go_wp2_with (first | (refine wpList_fcsim rfl _ _ _ rfl .f64 .f32 _ rfl (by first | with_reducible assumption | exact fits_neg (by with_reducible assumption)) u25 Try.underlying22 (by decide) (by first | with_reducible assumption | exact sim_neg (by with_reducible assumption) (fits_fop ..) (by with_reducible assumption)) ?_; intro r n hr hb) | (refine wpList_fsim rfl _ _ _ _ _ rfl rfl .f64 _ _ rfl rfl (by first | with_reducible assumption | exact Sim.refl _ _) (by first | with_reducible assumption | exact Sim.refl _ _) ?_; intro r n hr hb))
            go_ret
            exact ⟨_, _, rfl, rfl, by rw [E3.out]; exact hr (by rw [← E3.out]; exact HO.out), hb⟩
set_option maxHeartbeats 2000000 in
theorem imAng001 (x y : Nat) (w : World) (hfx : Fits .f32 x) (hfy : Fits .f32 y) (gx : FinW Ieee.double (fconv .f32 x .f64)) (gy : FinW Ieee.double (fconv .f32 y .f64)) (ho : (FloatKind.f64.format.order (fconv .f32 y .f64 % 9223372036854775808) (fconv .f32 x .f64 % 9223372036854775808) == some .gt) = false) (hfinx : fin .f32 x = true) (hfiny : fin .f32 y = true) (hsx : (FloatKind.f32.format.order x 0 == some .lt) = false) (hsy : (FloatKind.f32.format.order y 0 == some .lt) = true) (zx : Bool) (hzx : (FloatKind.f32.format.order x 0 == some .eq) = zx) (hzy : zx = true → (FloatKind.f32.format.order y 0 == some .eq) = false) (hov : over .f64 (An3 false false true (fop .quo .f64 (fconv .f32 y .f64 % 9223372036854775808) (fconv .f32 x .f64 % 9223372036854775808))) .f32 = false) : Calls Try.prog 41 #[.float .f32 y, .float .f32 x] w (RetF .f32 (fconv .f64 (An3 false false true (fop .quo .f64 (fconv .f32 y .f64 % 9223372036854775808) (fconv .f32 x .f64 % 9223372036854775808))) .f32) w) := by
  have hneg := neg64A
  have HNx := hid (nan_of_fin (k := .f64) gx)
  have HNy := hid (nan_of_fin (k := .f64) gy)
  have E3 := hid (show An3 false false true (fop .quo .f64 (fconv .f32 y .f64 % 9223372036854775808) (fconv .f32 x .f64 % 9223372036854775808)) = fneg .f64 (fop .quo .f64 (fop .mul .f64 eight (fop .mul .f64 (tS (fop .quo .f64 (fconv .f32 y .f64 % 9223372036854775808) (fconv .f32 x .f64 % 9223372036854775808)) 3) (pA (fop .mul .f64 (tS (fop .quo .f64 (fconv .f32 y .f64 % 9223372036854775808) (fconv .f32 x .f64 % 9223372036854775808)) 3) (tS (fop .quo .f64 (fconv .f32 y .f64 % 9223372036854775808) (fconv .f32 x .f64 % 9223372036854775808)) 3)) 8))) twoPiA) from rfl)
  have HO := hid hov
  clear gx gy hov
  cases zx
  · clear hzy
    go_enter Try.func41, Try.ntmps41
    go_wp2_with (first | (go_at_call 56; refine (implFinite _ _).mono ?_; rintro e w' ⟨rfl, n, rfl⟩) | (refine wpList_up rfl _ _ _ rfl _ rfl (by with_reducible assumption) u22 Try.underlying25 (Sim.refl _ _) ?_; intro r n hr hb; first | (have hx := (sim_eq hr HNx.out).symm; subst hx; clear hr) | (have hx := (sim_eq hr HNy.out).symm; subst hx; clear hr)) | (go_at_call 59; refine (absW _ _ ?_).mono ?_; (exact fits64 (by with_reducible assumption)); rintro e w' ⟨rfl, rfl⟩) | (refine wpList_fsim rfl _ _ _ _ _ rfl rfl .f64 _ _ rfl rfl (by first | with_reducible assumption | exact Sim.refl _ _) (by first | with_reducible assumption | exact Sim.refl _ _) ?_; intro r n hr hb))
    go_loopw [7, 43] (fun t k wr => ∃ (i q n : Nat), i ≤ 3 ∧ k = .int .i64 i ∧ t = .float .f64 q ∧ Sim .f64 q (tS (fop .quo .f64 (fconv .f32 y .f64 % 9223372036854775808) (fconv .f32 x .f64 % 9223372036854775808)) i) ∧ wr = w.drewN n) (fun _ k _ => 3 - (intOf k).toNat)
    case atStart => exact ⟨0, _, _, by omega, rfl, rfl, by show Sim _ _ (fop .quo .f64 (fconv .f32 y .f64 % 9223372036854775808) (fconv .f32 x .f64 % 9223372036854775808)); with_reducible assumption, rfl⟩
    case round =>
      obtain ⟨j, q, n, hi, rfl, rfl, hq, rfl⟩ := hrel
      by_cases hlt : j < 3
      · go_wp2_with (first | (go_at_call 62; refine (sqrtW _ _ _ (by with_reducible assumption)).mono ?_; rintro e w' ⟨r, n, rfl, rfl, hr, hb⟩) | (refine wpList_fsim rfl _ _ _ _ _ rfl rfl .f64 _ _ rfl rfl (by first | with_reducible assumption | exact Sim.refl _ _) (by first | with_reducible assumption | exact Sim.refl _ _) ?_; intro r n hr hb))
        go_roundw
        case rel => exact ⟨j + 1, _, _, by omega, by go_num, rfl, by show Sim _ _ (fop .quo .f64 (tS (fop .quo .f64 (fconv .f32 y .f64 % 9223372036854775808) (fconv .f32 x .f64 % 9223372036854775808)) j) (den (tS (fop .quo .f64 (fconv .f32 y .f64 % 9223372036854775808) (fconv .f32 x .f64 % 9223372036854775808)) j))); unfold den; with_reducible assumption, rfl⟩
        case measure => simp [intOf]; omega
      · obtain rfl : j = 3 := by omega
        go_wp2_with (refine wpList_fsim rfl _ _ _ _ _ rfl rfl .f64 _ _ rfl rfl (by first | with_reducible assumption | exact Sim.refl _ _) (by first | with_reducible assumption | exact Sim.refl _ _) ?_; intro r n hr hb)
        go_loopw [9, 10] (fun p k wr => ∃ (i q n : Nat), i ≤ 8 ∧ k = .float .f64 (ak i) ∧ p = .float .f64 q ∧ Sim .f64 q (pA (fop .mul .f64 (tS (fop .quo .f64 (fconv .f32 y .f64 % 9223372036854775808) (fconv .f32 x .f64 % 9223372036854775808)) 3) (tS (fop .quo .f64 (fconv .f32 y .f64 % 9223372036854775808) (fconv .f32 x .f64 % 9223372036854775808)) 3)) i) ∧ wr = w.drewN n) (fun _ k _ => akM k)
        case atStart => exact ⟨0, 0, _, by omega, rfl, rfl, Sim.refl _ _, rfl⟩
        case round =>
          obtain ⟨i, q2, n2, hi2, rfl, rfl, hq2, rfl⟩ := hrel
          by_cases hlt2 : i < 8
          · skip
            have hk := ak_ge i hlt2
            have HK := hid (ak_nan (i + 1) (by omega))
            have HD := hid (akM_dec i hlt2)
            go_wp2_with (refine wpList_fsim rfl _ _ _ _ _ rfl rfl .f64 _ _ rfl rfl (by first | with_reducible assumption | exact Sim.refl _ _) (by first | with_reducible assumption | exact Sim.refl _ _) ?_; intro r n hr hb)
            have hx := (sim_eq (show Sim .f64 r (ak (i + 1)) from hr) HK.out).symm
            subst hx
            go_roundw
            case rel => exact ⟨i + 1, _, _, by omega, rfl, rfl, by show Sim _ _ (fop .sub .f64 (fop .quo .f64 one (ak i)) (fop .mul .f64 (fop .mul .f64 (tS (fop .quo .f64 (fconv .f32 y .f64 % 9223372036854775808) (fconv .f32 x .f64 % 9223372036854775808)) 3) (tS (fop .quo .f64 (fconv .f32 y .f64 % 9223372036854775808) (fconv .f32 x .f64 % 9223372036854775808)) 3)) (pA (fop .mul .f64 (tS (fop .quo .f64 (fconv .f32 y .f64 % 9223372036854775808) (fconv .f32 x .f64 % 9223372036854775808)) 3) (tS (fop .quo .f64 (fconv .f32 y .f64 % 9223372036854775808) (fconv .f32 x .f64 % 9223372036854775808)) 3)) i))); with_reducible assumption, rfl⟩
            case measure => exact HD.out
          · obtain rfl : i = 8 := by omega
            have hk := ak_end
            go_wp2_with (first | (refine wpList_fcsim rfl _ _ _ rfl .f64 .f32 _ rfl (by first | with_reducible assumption | exact fits_neg (by with_reducible assumption)) u25 Try.underlying22 (by decide) (by first | with_reducible assumption | exact sim_neg (by with_reducible assumption) (fits_fop ..) (by with_reducible assumption)) ?_; intro r n hr hb) | (refine wpList_fsim rfl _ _ _ _ _ rfl rfl .f64 _ _ rfl rfl (by first | with_reducible assumption | exact Sim.refl _ _) (by first | with_reducible assumption | exact Sim.refl _ _) ?_; intro r n hr hb))
            go_ret
            exact ⟨_, _, rfl, rfl, by rw [E3.out]; exact hr (by rw [← E3.out]; exact HO.out), hb⟩
  · have hzy2 := hzy rfl
    clear hzy
    go_enter Try.func41, Try.ntmps41
    go_wp2_with (first | (go_at_call 56; refine (implFinite _ _).mono ?_; rintro e w' ⟨rfl, n, rfl⟩) | (refine wpList_up rfl _ _ _ rfl _ rfl (by with_reducible assumption) u22 Try.underlying25 (Sim.refl _ _) ?_; intro r n hr hb; first | (have hx := (sim_eq hr HNx.out).symm; subst hx; clear hr) | (have hx := (sim_eq hr HNy.out).symm; subst hx; clear hr)) | (go_at_call 59; refine (absW _ _ ?_).mono ?_; (exact fits64 (by with_reducible assumption)); rintro e w' ⟨rfl, rfl⟩) | (refine wpList_fsim rfl _ _ _ _ _ rfl rfl .f64 _ _ rfl rfl (by first | with_reducible assumption | exact Sim.refl _ _) (by first | with_reducible assumption | exact Sim.refl _ _) ?_; intro r n hr hb))
    go_loopw [7, 43] (fun t k wr => ∃ (i q n : Nat), i ≤ 3 ∧ k = .int .i64 i ∧ t = .float .f64 q ∧ Sim .f64 q (tS (fop .quo .f64 (fconv .f32 y .f64 % 9223372036854775808) (fconv .f32 x .f64 % 9223372036854775808)) i) ∧ wr = w.drewN n) (fun _ k _ => 3 - (intOf k).toNat)
    case atStart => exact ⟨0, _, _, by omega, rfl, rfl, by show Sim _ _ (fop .quo .f64 (fconv .f32 y .f64 % 9223372036854775808) (fconv .f32 x .f64 % 9223372036854775808)); with_reducible assumption, rfl⟩
    case round =>
      obtain ⟨j, q, n, hi, rfl, rfl, hq, rfl⟩ := hrel
      by_cases hlt : j < 3
      · go_wp2_with (first | (go_at_call 62; refine (sqrtW _ _ _ (by with_reducible assumption)).mono ?_; rintro e w' ⟨r, n, rfl, rfl, hr, hb⟩) | (refine wpList_fsim rfl _ _ _ _ _ rfl rfl .f64 _ _ rfl rfl (by first | with_reducible assumption | exact Sim.refl _ _) (by first | with_reducible assumption | exact Sim.refl _ _) ?_; intro r n hr hb))
        go_roundw
        case rel => exact ⟨j + 1, _, _, by omega, by go_num, rfl, by show Sim _ _ (fop .quo .f64 (tS (fop .quo .f64 (fconv .f32 y .f64 % 9223372036854775808) (fconv .f32 x .f64 % 9223372036854775808)) j) (den (tS (fop .quo .f64 (fconv .f32 y .f64 % 9223372036854775808) (fconv .f32 x .f64 % 9223372036854775808)) j))); unfold den; with_reducible assumption, rfl⟩
        case measure => simp [intOf]; omega
      · obtain rfl : j = 3 := by omega
        go_wp2_with (refine wpList_fsim rfl _ _ _ _ _ rfl rfl .f64 _ _ rfl rfl (by first | with_reducible assumption | exact Sim.refl _ _) (by first | with_reducible assumption | exact Sim.refl _ _) ?_; intro r n hr hb)
        go_loopw [9, 10] (fun p k wr => ∃ (i q n : Nat), i ≤ 8 ∧ k = .float .f64 (ak i) ∧ p = .float .f64 q ∧ Sim .f64 q (pA (fop .mul .f64 (tS (fop .quo .f64 (fconv .f32 y .f64 % 9223372036854775808) (fconv .f32 x .f64 % 9223372036854775808)) 3) (tS (fop .quo .f64 (fconv .f32 y .f64 % 9223372036854775808) (fconv .f32 x .f64 % 9223372036854775808)) 3)) i) ∧ wr = w.drewN n) (fun _ k _ => akM k)
        case atStart => exact ⟨0, 0, _, by omega, rfl, rfl, Sim.refl _ _, rfl⟩
        case round =>
          obtain ⟨i, q2, n2, hi2, rfl, rfl, hq2, rfl⟩ := hrel
          by_cases hlt2 : i < 8
          · skip
            have hk := ak_ge i hlt2
            have HK := hid (ak_nan (i + 1) (by omega))
            have HD := hid (akM_dec i hlt2)
            go_wp2_with (refine wpList_fsim rfl _ _ _ _ _ rfl rfl .f64 _ _ rfl rfl (by first | with_reducible assumption | exact Sim.refl _ _) (by first | with_reducible assumption | exact Sim.refl _ _) ?_; intro r n hr hb)
            have hx := (sim_eq (show Sim .f64 r (ak (i + 1)) from hr) HK.out).symm
            subst hx
            go_roundw
            case rel => exact ⟨i + 1, _, _, by omega, rfl, rfl, by show Sim _ _ (fop .sub .f64 (fop .quo .f64 one (ak i)) (fop .mul .f64 (fop .mul .f64 (tS (fop .quo .f64 (fconv .f32 y .f64 % 9223372036854775808) (fconv .f32 x .f64 % 9223372036854775808)) 3) (tS (fop .quo .f64 (fconv .f32 y .f64 % 9223372036854775808) (fconv .f32 x .f64 % 9223372036854775808)) 3)) (pA (fop .mul .f64 (tS (fop .quo .f64 (fconv .f32 y .f64 % 9223372036854775808) (fconv .f32 x .f64 % 9223372036854775808)) 3) (tS (fop .quo .f64 (fconv .f32 y .f64 % 9223372036854775808) (fconv .f32 x .f64 % 9223372036854775808)) 3)) i))); with_reducible assumption, rfl⟩
            case measure => exact HD.out
          · obtain rfl : i = 8 := by omega
            have hk := ak_end
            go_wp2_with (first | (refine wpList_fcsim rfl _ _ _ rfl .f64 .f32 _ rfl (by first | with_reducible assumption | exact fits_neg (by with_reducible assumption)) u25 Try.underlying22 (by decide) (by first | with_reducible assumption | exact sim_neg (by with_reducible assumption) (fits_fop ..) (by with_reducible assumption)) ?_; intro r n hr hb) | (refine wpList_fsim rfl _ _ _ _ _ rfl rfl .f64 _ _ rfl rfl (by first | with_reducible assumption | exact Sim.refl _ _) (by first | with_reducible assumption | exact Sim.refl _ _) ?_; intro r n hr hb))
            go_ret
            exact ⟨_, _, rfl, rfl, by rw [E3.out]; exact hr (by rw [← E3.out]; exact HO.out), hb⟩
set_option maxHeartbeats 2000000 in
theorem imAng010 (x y : Nat) (w : World) (hfx : Fits .f32 x) (hfy : Fits .f32 y) (gx : FinW Ieee.double (fconv .f32 x .f64)) (gy : FinW Ieee.double (fconv .f32 y .f64)) (ho : (FloatKind.f64.format.order (fconv .f32 y .f64 % 9223372036854775808) (fconv .f32 x .f64 % 9223372036854775808) == some .gt) = false) (hfinx : fin .f32 x = true) (hfiny : fin .f32 y = true) (hsx : (FloatKind.f32.format.order x 0 == some .lt) = true) (hsy : (FloatKind.f32.format.order y 0 == some .lt) = false) (zx : Bool) (hzx : (FloatKind.f32.format.order x 0 == some .eq) = zx) (hzy : zx = true → (FloatKind.f32.format.order y 0 == some .eq) = false) (hov : over .f64 (An3 false true false (fop .quo .f64 (fconv .f32 y .f64 % 9223372036854775808) (fconv .f32 x .f64 % 9223372036854775808))) .f32 = false) : Calls Try.prog 41 #[.float .f32 y, .float .f32 x] w (RetF .f32 (fconv .f64 (An3 false true false (fop .quo .f64 (fconv .f32 y .f64 % 9223372036854775808) (fconv .f32 x .f64 % 9223372036854775808))) .f32) w) := by
  have hneg := neg64A
  have HNx := hid (nan_of_fin (k := .f64) gx)
  have HNy := hid (nan_of_fin (k := .f64) gy)
  have E3 := hid (show An3 false true false (fop .quo .f64 (fconv .f32 y .f64 % 9223372036854775808) (fconv .f32 x .f64 % 9223372036854775808)) = fop .sub .f64 halfA (fop .quo .f64 (fop .mul .f64 eight (fop .mul .f64 (tS (fop .quo .f64 (fconv .f32 y .f64 % 9223372036854775808) (fconv .f32 x .f64 % 9223372036854775808)) 3) (pA (fop .mul .f64 (tS (fop .quo .f64 (fconv .f32 y .f64 % 9223372036854775808) (fconv .f32 x .f64 % 9223372036854775808)) 3) (tS (fop .quo .f64 (fconv .f32 y .f64 % 9223372036854775808) (fconv .f32 x .f64 % 9223372036854775808)) 3)) 8))) twoPiA) from rfl)
  have HO := hid hov
  clear gx gy hov
  cases zx
  · clear hzy
    go_enter Try.func41, Try.ntmps41
    go_wp2_with (first | (go_at_call 56; refine (implFinite _ _).mono ?_; rintro e w' ⟨rfl, n, rfl⟩) | (refine wpList_up rfl _ _ _ rfl _ rfl (by with_reducible assumption) u22 Try.underlying25 (Sim.refl _ _) ?_; intro r n hr hb; first | (have hx := (sim_eq hr HNx.out).symm; subst hx; clear hr) | (have hx := (sim_eq hr HNy.out).symm; subst hx; clear hr)) | (go_at_call 59; refine (absW _ _ ?_).mono ?_; (exact fits64 (by with_reducible assumption)); rintro e w' ⟨rfl, rfl⟩) | (refine wpList_fsim rfl _ _ _ _ _ rfl rfl .f64 _ _ rfl rfl (by first | with_reducible assumption | exact Sim.refl _ _) (by first | with_reducible assumption | exact Sim.refl _ _) ?_; intro r n hr hb))
    go_loopw [7, 43] (fun t k wr => ∃ (i q n : Nat), i ≤ 3 ∧ k = .int .i64 i ∧ t = .float .f64 q ∧ Sim .f64 q (tS (fop .quo .f64 (fconv .f32 y .f64 % 9223372036854775808) (fconv .f32 x .f64 % 9223372036854775808)) i) ∧ wr = w.drewN n) (fun _ k _ => 3 - (intOf k).toNat)
    case atStart => exact ⟨0, _, _, by omega, rfl, rfl, by show Sim _ _ (fop .quo .f64 (fconv .f32 y .f64 % 9223372036854775808) (fconv .f32 x .f64 % 9223372036854775808)); with_reducible assumption, rfl⟩
    case round =>
      obtain ⟨j, q, n, hi, rfl, rfl, hq, rfl⟩ := hrel
      by_cases hlt : j < 3
      · go_wp2_with (first | (go_at_call 62; refine (sqrtW _ _ _ (by with_reducible assumption)).mono ?_; rintro e w' ⟨r, n, rfl, rfl, hr, hb⟩) | (refine wpList_fsim rfl _ _ _ _ _ rfl rfl .f64 _ _ rfl rfl (by first | with_reducible assumption | exact Sim.refl _ _) (by first | with_reducible assumption | exact Sim.refl _ _) ?_; intro r n hr hb))
        go_roundw
        case rel => exact ⟨j + 1, _, _, by omega, by go_num, rfl, by show Sim _ _ (fop .quo .f64 (tS (fop .quo .f64 (fconv .f32 y .f64 % 9223372036854775808) (fconv .f32 x .f64 % 9223372036854775808)) j) (den (tS (fop .quo .f64 (fconv .f32 y .f64 % 9223372036854775808) (fconv .f32 x .f64 % 9223372036854775808)) j))); unfold den; with_reducible assumption, rfl⟩
        case measure => simp [intOf]; omega
      · obtain rfl : j = 3 := by omega
        go_wp2_with (refine wpList_fsim rfl _ _ _ _ _ rfl rfl .f64 _ _ rfl rfl (by first | with_reducible assumption | exact Sim.refl _ _) (by first | with_reducible assumption | exact Sim.refl _ _) ?_; intro r n hr hb)
        go_loopw [9, 10] (fun p k wr => ∃ (i q n : Nat), i ≤ 8 ∧ k = .float .f64 (ak i) ∧ p = .float .f64 q ∧ Sim .f64 q (pA (fop .mul .f64 (tS (fop .quo .f64 (fconv .f32 y .f64 % 9223372036854775808) (fconv .f32 x .f64 % 9223372036854775808)) 3) (tS (fop .quo .f64 (fconv .f32 y .f64 % 9223372036854775808) (fconv .f32 x .f64 % 9223372036854775808)) 3)) i) ∧ wr = w.drewN n) (fun _ k _ => akM k)
        case atStart => exact ⟨0, 0, _, by omega, rfl, rfl, Sim.refl _ _, rfl⟩
        case round =>
          obtain ⟨i, q2, n2, hi2, rfl, rfl, hq2, rfl⟩ := hrel
          by_cases hlt2 : i < 8
          · skip
            have hk := ak_ge i hlt2
            have HK := hid (ak_nan (i + 1) (by omega))
            have HD := hid (akM_dec i hlt2)
            go_wp2_with (refine wpList_fsim rfl _ _ _ _ _ rfl rfl .f64 _ _ rfl rfl (by first | with_reducible assumption | exact Sim.refl _ _) (by first | with_reducible assumption | exact Sim.refl _ _) ?_; intro r n hr hb)
            have hx := (sim_eq (show Sim .f64 r (ak (i + 1)) from hr) HK.out).symm
            subst hx
            go_roundw
            case rel => exact ⟨i + 1, _, _, by omega, rfl, rfl, by show Sim _ _ (fop .sub .f64 (fop .quo .f64 one (ak i)) (fop .mul .f64 (fop .mul .f64 (tS (fop .quo .f64 (fconv .f32 y .f64 % 9223372036854775808) (fconv .f32 x .f64 % 9223372036854775808)) 3) (tS (fop .quo .f64 (fconv .f32 y .f64 % 9223372036854775808) (fconv .f32 x .f64 % 9223372036854775808)) 3)) (pA (fop .mul .f64 (tS (fop .quo .f64 (fconv .f32 y .f64 % 9223372036854775808) (fconv .f32 x .f64 % 9223372036854775808)) 3) (tS (fop .quo .f64 (fconv .f32 y .f64 % 9223372036854775808) (fconv .f32 x .f64 % 9223372036854775808)) 3)) i))); with_reducible assumption, rfl⟩
            case measure => exact HD.out
          · obtain rfl : i = 8 := by omega
            have hk := ak_end
            go_wp2_with (first | (refine wpList_fcsim rfl _ _ _ rfl .f64 .f32 _ rfl (by first | with_reducible assumption | exact fits_neg (by with_reducible assumption)) u25 Try.underlying22 (by decide) (by first | with_reducible assumption | exact sim_neg (by with_reducible assumption) (fits_fop ..) (by with_reducible assumption)) ?_; intro r n hr hb) | (refine wpList_fsim rfl _ _ _ _ _ rfl rfl .f64 _ _ rfl rfl (by first | with_reducible assumption | exact Sim.refl _ _) (by first | with_reducible assumption | exact Sim.refl _ _) ?_; intro r n hr hb))
            go_ret
            exact ⟨_, _, rfl, rfl, by rw [E3.out]; exact hr (by rw [← E3.out]; exact HO.out), hb⟩
  · have hzy2 := hzy rfl
    clear hzy
    go_enter Try.func41, Try.ntmps41
    go_wp2_with (first | (go_at_call 56; refine (implFinite _ _).mono ?_; rintro e w' ⟨rfl, n, rfl⟩) | (refine wpList_up rfl _ _ _ rfl _ rfl (by with_reducible assumption) u22 Try.underlying25 (Sim.refl _ _) ?_; intro r n hr hb; first | (have hx := (sim_eq hr HNx.out).symm; subst hx; clear hr) | (have hx := (sim_eq hr HNy.out).symm; subst hx; clear hr)) | (go_at_call 59; refine (absW _ _ ?_).mono ?_; (exact fits64 (by with_reducible assumption)); rintro e w' ⟨rfl, rfl⟩) | (refine wpList_fsim rfl _ _ _ _ _ rfl rfl .f64 _ _ rfl rfl (by first | with_reducible assumption | exact Sim.refl _ _) (by first | with_reducible assumption | exact Sim.refl _ _) ?_; intro r n hr hb))
    go_loopw [7, 43] (fun t k wr => ∃ (i q n : Nat), i ≤ 3 ∧ k = .int .i64 i ∧ t = .float .f64 q ∧ Sim .f64 q (tS (fop .quo .f64 (fconv .f32 y .f64 % 9223372036854775808) (fconv .f32 x .f64 % 9223372036854775808)) i) ∧ wr = w.drewN n) (fun _ k _ => 3 - (intOf k).toNat)
    case atStart => exact ⟨0, _, _, by omega, rfl, rfl, by show Sim _ _ (fop .quo .f64 (fconv .f32 y .f64 % 9223372036854775808) (fconv .f32 x .f64 % 9223372036854775808)); with_reducible assumption, rfl⟩
    case round =>
      obtain ⟨j, q, n, hi, rfl, rfl, hq, rfl⟩ := hrel
      by_cases hlt : j < 3
      · go_wp2_with (first | (go_at_call 62; refine (sqrtW _ _ _ (by with_reducible assumption)).mono ?_; rintro e w' ⟨r, n, rfl, rfl, hr, hb⟩) | (refine wpList_fsim rfl _ _ _ _ _ rfl rfl .f64 _ _ rfl rfl (by first | with_reducible assumption | exact Sim.refl _ _) (by first | with_reducible assumption | exact Sim.refl _ _) ?_; intro r n hr hb))
        go_roundw
        case rel => exact ⟨j + 1, _, _, by omega, by go_num, rfl, by show Sim _ _ (fop .quo .f64 (tS (fop .quo .f64 (fconv .f32 y .f64 % 9223372036854775808) (fconv .f32 x .f64 % 9223372036854775808)) j) (den (tS (fop .quo .f64 (fconv .f32 y .f64 % 9223372036854775808) (fconv .f32 x .f64 % 9223372036854775808)) j))); unfold den; with_reducible assumption, rfl⟩
        case measure => simp [intOf]; omega
      · obtain rfl : j = 3 := by omega
        go_wp2_with (refine wpList_fsim rfl _ _ _ _ _ rfl rfl .f64 _ _ rfl rfl (by first | with_reducible assumption | exact Sim.refl _ _) (by first | with_reducible assumption | exact Sim.refl _ _) ?_; intro r n hr hb)
        go_loopw [9, 10] (fun p k wr => ∃ (i q n : Nat), i ≤ 8 ∧ k = .float .f64 (ak i) ∧ p = .float .f64 q ∧ Sim .f64 q (pA (fop .mul .f64 (tS (fop .quo .f64 (fconv .f32 y .f64 % 9223372036854775808) (fconv .f32 x .f64 % 9223372036854775808)) 3) (tS (fop .quo .f64 (fconv .f32 y .f64 % 9223372036854775808) (fconv .f32 x .f64 % 9223372036854775808)) 3)) i) ∧ wr = w.drewN n) (fun _ k _ => akM k)
        case atStart => exact ⟨0, 0, _, by omega, rfl, rfl, Sim.refl _ _, rfl⟩
        case round =>
          obtain ⟨i, q2, n2, hi2, rfl, rfl, hq2, rfl⟩ := hrel
          by_cases hlt2 : i < 8
          · skip
            have hk := ak_ge i hlt2
            have HK := hid (ak_nan (i + 1) (by omega))
            have HD := hid (akM_dec i hlt2)
            go_wp2_with (refine wpList_fsim rfl _ _ _ _ _ rfl rfl .f64 _ _ rfl rfl (by first | with_reducible assumption | exact Sim.refl _ _) (by first | with_reducible assumption | exact Sim.refl _ _) ?_; intro r n hr hb)
            have hx := (sim_eq (show Sim .f64 r (ak (i + 1)) from hr) HK.out).symm
            subst hx
            go_roundw
            case rel => exact ⟨i + 1, _, _, by omega, rfl, rfl, by show Sim _ _ (fop .sub .f64 (fop .quo .f64 one (ak i)) (fop .mul .f64 (fop .mul .f64 (tS (fop .quo .f64 (fconv .f32 y .f64 % 9223372036854775808) (fconv .f32 x .f64 % 9223372036854775808)) 3) (tS (fop .quo .f64 (fconv .f32 y .f64 % 9223372036854775808) (fconv .f32 x .f64 % 9223372036854775808)) 3)) (pA (fop .mul .f64 (tS (fop .quo .f64 (fconv .f32 y .f64 % 9223372036854775808) (fconv .f32 x .f64 % 9223372036854775808)) 3) (tS (fop .quo .f64 (fconv .f32 y .f64 % 9223372036854775808) (fconv .f32 x .f64 % 9223372036854775808)) 3)) i))); with_reducible assumption, rfl⟩
            case measure => exact HD.out
          · obtain rfl : i = 8 := by omega
            have hk := ak_end
            go_wp2_with (first | (refine wpList_fcsim rfl _ _ _ rfl .f64 .f32 _ rfl (by first | with_reducible assumption | exact fits_neg (by with_reducible assumption)) u25 Try.underlying22 (by decide) (by first | with_reducible assumption | exact sim_neg (by with_reducible assumption) (fits_fop ..) (by with_reducible assumption)) ?_; intro r n hr hb) | (refine wpList_fsim rfl _ _ _ _ _ rfl rfl .f64 _ _ rfl rfl (by first | with_reducible assumption | exact Sim.refl _ _) (by first | with_reducible assumption | exact Sim.refl _ _) ?_; intro r n hr hb))
            go_ret
            exact ⟨_, _, rfl, rfl, by rw [E3.out]; exact hr (by rw [← E3.out]; exact HO.out), hb⟩
set_option maxHeartbeats 2000000 in
theorem imAng011 (x y : Nat) (w : World) (hfx : Fits .f32 x) (hfy : Fits .f32 y) (gx : FinW Ieee.double (fconv .f32 x .f64)) (gy : FinW Ieee.double (fconv .f32 y .f64)) (ho : (FloatKind.f64.format.order (fconv .f32 y .f64 % 9223372036854775808) (fconv .f32 x .f64 % 9223372036854775808) == some .gt) = false) (hfinx : fin .f32 x = true) (hfiny : fin .f32 y = true) (hsx : (FloatKind.f32.format.order x 0 == some .lt) = true) (hsy : (FloatKind.f32.format.order y 0 == some .lt) = true) (zx : Bool) (hzx : (FloatKind.f32.format.order x 0 == some .eq) = zx) (hzy : zx = true → (FloatKind.f32.format.order y 0 == some .eq) = false) (hov : over .f64 (An3 false true true (fop .quo .f64 (fconv .f32 y .f64 % 9223372036854775808) (fconv .f32 x .f64 % 9223372036854775808))) .f32 = false) : Calls Try.prog 41 #[.float .f32 y, .float .f32 x] w (RetF .f32 (fconv .f64 (An3 false true true (fop .quo .f64 (fconv .f32 y .f64 % 9223372036854775808) (fconv .f32 x .f64 % 9223372036854775808))) .f32) w) := by
  have hneg := neg64A
  have HNx := hid (nan_of_fin (k := .f64) gx)
  have HNy := hid (nan_of_fin (k := .f64) gy)
  have E3 := hid (show An3 false true true (fop .quo .f64 (fconv .f32 y .f64 % 9223372036854775808) (fconv .f32 x .f64 % 9223372036854775808)) = fneg .f64 (fop .sub .f64 halfA (fop .quo .f64 (fop .mul .f64 eight (fop .mul .f64 (tS (fop .quo .f64 (fconv .f32 y .f64 % 9223372036854775808) (fconv .f32 x .f64 % 9223372036854775808)) 3) (pA (fop .mul .f64 (tS (fop .quo .f64 (fconv .f32 y .f64 % 9223372036854775808) (fconv .f32 x .f64 % 9223372036854775808)) 3) (tS (fop .quo .f64 (fconv .f32 y .f64 % 9223372036854775808) (fconv .f32 x .f64 % 9223372036854775808)) 3)) 8))) twoPiA)) from rfl)
  have HO := hid hov
  clear gx gy hov
  cases zx
  · clear hzy
    go_enter Try.func41, Try.ntmps41
    go_wp2_with (first | (go_at_call 56; refine (implFinite _ _).mono ?_; rintro e w' ⟨rfl, n, rfl⟩) | (refine wpList_up rfl _ _ _ rfl _ rfl (by with_reducible assumption) u22 Try.underlying25 (Sim.refl _ _) ?_; intro r n hr hb; first | (have hx := (sim_eq hr HNx.out).symm; subst hx; clear hr) | (have hx := (sim_eq hr HNy.out).symm; subst hx; clear hr)) | (go_at_call 59; refine (absW _ _ ?_).mono ?_; (exact fits64 (by with_reducible assumption)); rintro e w' ⟨rfl, rfl⟩) | (refine wpList_fsim rfl _ _ _ _ _ rfl rfl .f64 _ _ rfl rfl (by first | with_reducible assumption | exact Sim.refl _ _) (by first | with_reducible assumption | exact Sim.refl _ _) ?_; intro r n hr hb))
    go_loopw [7, 43] (fun t k wr => ∃ (i q n : Nat), i ≤ 3 ∧ k = .int .i64 i ∧ t = .float .f64 q ∧ Sim .f64 q (tS (fop .quo .f64 (fconv .f32 y .f64 % 9223372036854775808) (fconv .f32 x .f64 % 9223372036854775808)) i) ∧ wr = w.drewN n) (fun _ k _ => 3 - (intOf k).toNat)
    case atStart => exact ⟨0, _, _, by omega, rfl, rfl, by show Sim _ _ (fop .quo .f64 (fconv .f32 y .f64 % 9223372036854775808) (fconv .f32 x .f64 % 9223372036854775808)); with_reducible assumption, rfl⟩
    case round =>
      obtain ⟨j, q, n, hi, rfl, rfl, hq, rfl⟩ := hrel
      by_cases hlt : j < 3
      · go_wp2_with (first | (go_at_call 62; refine (sqrtW _ _ _ (by with_reducible assumption)).mono ?_; rintro e w' ⟨r, n, rfl, rfl, hr, hb⟩) | (refine wpList_fsim rfl _ _ _ _ _ rfl rfl .f64 _ _ rfl rfl (by first | with_reducible assumption | exact Sim.refl _ _) (by first | with_reducible assumption | exact Sim.refl _ _) ?_; intro r n hr hb))
        go_roundw
        case rel => exact ⟨j + 1, _, _, by omega, by go_num, rfl, by show Sim _ _ (fop .quo .f64 (tS (fop .quo .f64 (fconv .f32 y .f64 % 9223372036854775808) (fconv .f32 x .f64 % 9223372036854775808)) j) (den (tS (fop .quo .f64 (fconv .f32 y .f64 % 9223372036854775808) (fconv .f32 x .f64 % 9223372036854775808)) j))); unfold den; with_reducible assumption, rfl⟩
        case measure => simp [intOf]; omega
      · obtain rfl : j = 3 := by omega
        go_wp2_with (refine wpList_fsim rfl _ _ _ _ _ rfl rfl .f64 _ _ rfl rfl (by first | with_reducible assumption | exact Sim.refl _ _) (by first | with_reducible assumption | exact Sim.refl _ _) ?_; intro r n hr hb)
        go_loopw [9, 10] (fun p k wr => ∃ (i q n : Nat), i ≤ 8 ∧ k = .float .f64 (ak i) ∧ p = .float .f64 q ∧ Sim .f64 q (pA (fop .mul .f64 (tS (fop .quo .f64 (fconv .f32 y .f64 % 9223372036854775808) (fconv .f32 x .f64 % 9223372036854775808)) 3) (tS (fop .quo .f64 (fconv .f32 y .f64 % 9223372036854775808) (fconv .f32 x .f64 % 9223372036854775808)) 3)) i) ∧ wr = w.drewN n) (fun _ k _ => akM k)
        case atStart => exact ⟨0, 0, _, by omega, rfl, rfl, Sim.refl _ _, rfl⟩
        case round =>
          obtain ⟨i, q2, n2, hi2, rfl, rfl, hq2, rfl⟩ := hrel
          by_cases hlt2 : i < 8
          · skip
            have hk := ak_ge i hlt2
            have HK := hid (ak_nan (i + 1) (by omega))
            have HD := hid (akM_dec i hlt2)
            go_wp2_with (refine wpList_fsim rfl _ _ _ _ _ rfl rfl .f64 _ _ rfl rfl (by first | with_reducible assumption | exact Sim.refl _ _) (by first | with_reducible assumption | exact Sim.refl _ _) ?_; intro r n hr hb)
            have hx := (sim_eq (show Sim .f64 r (ak (i + 1)) from hr) HK.out).symm
            subst hx
            go_roundw
            case rel => exact ⟨i + 1, _, _, by omega, rfl, rfl, by show Sim _ _ (fop .sub .f64 (fop .quo .f64 one (ak i)) (fop .mul .f64 (fop .mul .f64 (tS (fop .quo .f64 (fconv .f32 y .f64 % 9223372036854775808) (fconv .f32 x .f64 % 9223372036854775808)) 3) (tS (fop .quo .f64 (fconv .f32 y .f64 % 9223372036854775808) (fconv .f32 x .f64 % 9223372036854775808)) 3)) (pA (fop .mul .f64 (tS (fop .quo .f64 (fconv .f32 y .f64 % 9223372036854775808) (fconv .f32 x .f64 % 9223372036854775808)) 3) (tS (fop .quo .f64 (fconv .f32 y .f64 % 9223372036854775808) (fconv .f32 x .f64 % 9223372036854775808)) 3)) i))); with_reducible assumption, rfl⟩
            case measure => exact HD.out
          · obtain rfl : i = 8 := by omega
            have hk := ak_end
            go_wp2_with (first | (refine wpList_fcsim rfl _ _ _ rfl .f64 .f32 _ rfl (by first | with_reducible assumption | exact fits_neg (by with_reducible assumption)) u25 Try.underlying22 (by decide) (by first | with_reducible assumption | exact sim_neg (by with_reducible assumption) (fits_fop ..) (by with_reducible assumption)) ?_; intro r n hr hb) | (refine wpList_fsim rfl _ _ _ _ _ rfl rfl .f64 _ _ rfl rfl (by first | with_reducible assumption | exact Sim.refl _ _) (by first | with_reducible assumption | exact Sim.refl _ _) ?_; intro r n hr hb))
            go_ret
            exact ⟨_, _, rfl, rfl, by rw [E3.out]; exact hr (by rw [← E3.out]; exact HO.out), hb⟩
  · have hzy2 := hzy rfl
    clear hzy
    go_enter Try.func41, Try.ntmps41
    go_wp2_with (first | (go_at_call 56; refine (implFinite _ _).mono ?_; rintro e w' ⟨rfl, n, rfl⟩) | (refine wpList_up rfl _ _ _ rfl _ rfl (by with_reducible assumption) u22 Try.underlying25 (Sim.refl _ _) ?_; intro r n hr hb; first | (have hx := (sim_eq hr HNx.out).symm; subst hx; clear hr) | (have hx := (sim_eq hr HNy.out).symm; subst hx; clear hr)) | (go_at_call 59; refine (absW _ _ ?_).mono ?_; (exact fits64 (by with_reducible assumption)); rintro e w' ⟨rfl, rfl⟩) | (refine wpList_fsim rfl _ _ _ _ _ rfl rfl .f64 _ _ rfl rfl (by first | with_reducible assumption | exact Sim.refl _ _) (by first | with_reducible assumption | exact Sim.refl _ _) ?_; intro r n hr hb))
    go_loopw [7, 43] (fun t k wr => ∃ (i q n : Nat), i ≤ 3 ∧ k = .int .i64 i ∧ t = .float .f64 q ∧ Sim .f64 q (tS (fop .quo .f64 (fconv .f32 y .f64 % 9223372036854775808) (fconv .f32 x .f64 % 9223372036854775808)) i) ∧ wr = w.drewN n) (fun _ k _ => 3 - (intOf k).toNat)
    case atStart => exact ⟨0, _, _, by omega, rfl, rfl, by show Sim _ _ (fop .quo .f64 (fconv .f32 y .f64 % 9223372036854775808) (fconv .f32 x .f64 % 9223372036854775808)); with_reducible assumption, rfl⟩
    case round =>
      obtain ⟨j, q, n, hi, rfl, rfl, hq, rfl⟩ := hrel
      by_cases hlt : j < 3
      · go_wp2_with (first | (go_at_call 62; refine (sqrtW _ _ _ (by with_reducible assumption)).mono ?_; rintro e w' ⟨r, n, rfl, rfl, hr, hb⟩) | (refine wpList_fsim rfl _ _ _ _ _ rfl rfl .f64 _ _ rfl rfl (by first | with_reducible assumption | exact Sim.refl _ _) (by first | with_reducible assumption | exact Sim.refl _ _) ?_; intro r n hr hb))
        go_roundw
        case rel => exact ⟨j + 1, _, _, by omega, by go_num, rfl, by show Sim _ _ (fop .quo .f64 (tS (fop .quo .f64 (fconv .f32 y .f64 % 9223372036854775808) (fconv .f32 x .f64 % 9223372036854775808)) j) (den (tS (fop .quo .f64 (fconv .f32 y .f64 % 9223372036854775808) (fconv .f32 x .f64 % 9223372036854775808)) j))); unfold den; with_reducible assumption, rfl⟩
        case measure => simp [intOf]; omega
      · obtain rfl : j = 3 := by omega
        go_wp2_with (refine wpList_fsim rfl _ _ _ _ _ rfl rfl .f64 _ _ rfl rfl (by first | with_reducible assumption | exact Sim.refl _ _) (by first | with_reducible assumption | exact Sim.refl _ _) ?_; intro r n hr hb)
        go_loopw [9, 10] (fun p k wr => ∃ (i q n : Nat), i ≤ 8 ∧ k = .float .f64 (ak i) ∧ p = .float .f64 q ∧ Sim .f64 q (pA (fop .mul .f64 (tS (fop .quo .f64 (fconv .f32 y .f64 % 9223372036854775808) (fconv .f32 x .f64 % 9223372036854775808)) 3) (tS (fop .quo .f64 (fconv .f32 y .f64 % 9223372036854775808) (fconv .f32 x .f64 % 9223372036854775808)) 3)) i) ∧ wr = w.drewN n) (fun _ k _ => akM k)
        case atStart => exact ⟨0, 0, _, by omega, rfl, rfl, Sim.refl _ _, rfl⟩
        case round =>
          obtain ⟨i, q2, n2, hi2, rfl, rfl, hq2, rfl⟩ := hrel
          by_cases hlt2 : i < 8
          · skip
            have hk := ak_ge i hlt2
            have HK := hid (ak_nan (i + 1) (by omega))
            have HD := hid (akM_dec i hlt2)
            go_wp2_with (refine wpList_fsim rfl _ _ _ _ _ rfl rfl .f64 _ _ rfl rfl (by first | with_reducible assumption | exact Sim.refl _ _) (by first | with_reducible assumption | exact Sim.refl _ _) ?_; intro r n hr hb)
            have hx := (sim_eq (show Sim .f64 r (ak (i + 1)) from hr) HK.out).symm
            subst hx
            go_roundw
            case rel => exact ⟨i + 1, _, _, by omega, rfl, rfl, by show Sim _ _ (fop .sub .f64 (fop .quo .f64 one (ak i)) (fop .mul .f64 (fop .mul .f64 (tS (fop .quo .f64 (fconv .f32 y .f64 % 9223372036854775808) (fconv .f32 x .f64 % 9223372036854775808)) 3) (tS (fop .quo .f64 (fconv .f32 y .f64 % 9223372036854775808) (fconv .f32 x .f64 % 9223372036854775808)) 3)) (pA (fop .mul .f64 (tS (fop .quo .f64 (fconv .f32 y .f64 % 9223372036854775808) (fconv .f32 x .f64 % 9223372036854775808)) 3) (tS (fop .quo .f64 (fconv .f32 y .f64 % 9223372036854775808) (fconv .f32 x .f64 % 9223372036854775808)) 3)) i))); with_reducible assumption, rfl⟩
            case measure => exact HD.out
          · obtain rfl : i = 8 := by omega
            have hk := ak_end
            go_wp2_with (first | (refine wpList_fcsim rfl _ _ _ rfl .f64 .f32 _ rfl (by first | with_reducible assumption | exact fits_neg (by with_reducible assumption)) u25 Try.underlying22 (by decide) (by first | with_reducible assumption | exact sim_neg (by with_reducible assumption) (fits_fop ..) (by with_reducible assumption)) ?_; intro r n hr hb) | (refine wpList_fsim rfl _ _ _ _ _ rfl rfl .f64 _ _ rfl rfl (by first | with_reducible assumption | exact Sim.refl _ _) (by first | with_reducible assumption | exact Sim.refl _ _) ?_; intro r n hr hb))
            go_ret
            exact ⟨_, _, rfl, rfl, by rw [E3.out]; exact hr (by rw [← E3.out]; exact HO.out), hb⟩
set_option maxHeartbeats 2000000 in
theorem imAng100 (x y : Nat) (w : World) (hfx : Fits .f32 x) (hfy : Fits .f32 y) (gx : FinW Ieee.double (fconv .f32 x .f64)) (gy : FinW Ieee.double (fconv .f32 y .f64)) (ho : (FloatKind.f64.format.order (fconv .f32 y .f64 % 9223372036854775808) (fconv .f32 x .f64 % 9223372036854775808) == some .gt) = true) (hfinx : fin .f32 x = true) (hfiny : fin .f32 y = true) (hsx : (FloatKind.f32.format.order x 0 == some .lt) = false) (hsy : (FloatKind.f32.format.order y 0 == some .lt) = false) (zx : Bool) (hzx : (FloatKind.f32.format.order x 0 == some .eq) = zx) (hzy : zx = true → (FloatKind.f32.format.order y 0 == some .eq) = false) (hov : over .f64 (An3 true false false (fop .quo .f64 (fconv .f32 x .f64 % 9223372036854775808) (fconv .f32 y .f64 % 9223372036854775808))) .f32 = false) : Calls Try.prog 41 #[.float .f32 y, .float .f32 x] w (RetF .f32 (fconv .f64 (An3 true false false (fop .quo .f64 (fconv .f32 x .f64 % 9223372036854775808) (fconv .f32 y .f64 % 9223372036854775808))) .f32) w) := by
  have hneg := neg64A
  have HNx := hid (nan_of_fin (k := .f64) gx)
  have HNy := hid (nan_of_fin (k := .f64) gy)
  have E3 := hid (show An3 true false false (fop .quo .f64 (fconv .f32 x .f64 % 9223372036854775808) (fconv .f32 y .f64 % 9223372036854775808)) = fop .sub .f64 quarterA (fop .quo .f64 (fop .mul .f64 eight (fop .mul .f64 (tS (fop .quo .f64 (fconv .f32 x .f64 % 9223372036854775808) (fconv .f32 y .f64 % 9223372036854775808)) 3) (pA (fop .mul .f64 (tS (fop .quo .f64 (fconv .f32 x .f64 % 9223372036854775808) (fconv .f32 y .f64 % 9223372036854775808)) 3) (tS (fop .quo .f64 (fconv .f32 x .f64 % 9223372036854775808) (fconv .f32 y .f64 % 9223372036854775808)) 3)) 8))) twoPiA) from rfl)
  have HO := hid hov
  clear gx gy hov
  cases zx
  · clear hzy
    go_enter Try.func41, Try.ntmps41
    go_wp2_with (first | (go_at_call 56; refine (implFinite _ _).mono ?_; rintro e w' ⟨rfl, n, rfl⟩) | (refine wpList_up rfl _ _ _ rfl _ rfl (by with_reducible assumption) u22 Try.underlying25 (Sim.refl _ _) ?_; intro r n hr hb; first | (have hx := (sim_eq hr HNx.out).symm; subst hx; clear hr) | (have hx := (sim_eq hr HNy.out).symm; subst hx; clear hr)) | (go_at_call 59; refine (absW _ _ ?_).mono ?_; (exact fits64 (by with_reducible assumption)); rintro e w' ⟨rfl, rfl⟩) | (refine wpList_fsim rfl _ _ _ _ _ rfl rfl .f64 _ _ rfl rfl (by first | with_reducible assumption | exact Sim.refl _ _) (by first | with_reducible assumption | exact Sim.refl _ _) ?_; intro r n hr hb))
    go_loopw [7, 43] (fun t k wr => ∃ (i q n : Nat), i ≤ 3 ∧ k = .int .i64 i ∧ t = .float .f64 q ∧ Sim .f64 q (tS (fop .quo .f64 (fconv .f32 x .f64 % 9223372036854775808) (fconv .f32 y .f64 % 9223372036854775808)) i) ∧ wr = w.drewN n) (fun _ k _ => 3 - (intOf k).toNat)
    case atStart => exact ⟨0, _, _, by omega, rfl, rfl, by show Sim _ _ (fop .quo .f64 (fconv .f32 x .f64 % 9223372036854775808) (fconv .f32 y .f64 % 9223372036854775808)); with_reducible assumption, rfl⟩
    case round =>
      obtain ⟨j, q, n, hi, rfl, rfl, hq, rfl⟩ := hrel
      by_cases hlt : j < 3
      · go_wp2_with (first | (go_at_call 62; refine (sqrtW _ _ _ (by with_reducible assumption)).mono ?_; rintro e w' ⟨r, n, rfl, rfl, hr, hb⟩) | (refine wpList_fsim rfl _ _ _ _ _ rfl rfl .f64 _ _ rfl rfl (by first | with_reducible assumption | exact Sim.refl _ _) (by first | with_reducible assumption | exact Sim.refl _ _) ?_; intro r n hr hb))
        go_roundw
        case rel => exact ⟨j + 1, _, _, by omega, by go_num, rfl, by show Sim _ _ (fop .quo .f64 (tS (fop .quo .f64 (fconv .f32 x .f64 % 9223372036854775808) (fconv .f32 y .f64 % 9223372036854775808)) j) (den (tS (fop .quo .f64 (fconv .f32 x .f64 % 9223372036854775808) (fconv .f32 y .f64 % 9223372036854775808)) j))); unfold den; with_reducible assumption, rfl⟩
        case measure => simp [intOf]; omega
      · obtain rfl : j = 3 := by omega
        go_wp2_with (refine wpList_fsim rfl _ _ _ _ _ rfl rfl .f64 _ _ rfl rfl (by first | with_reducible assumption | exact Sim.refl _ _) (by first | with_reducible assumption | exact Sim.refl _ _) ?_; intro r n hr hb)
        go_loopw [9, 10] (fun p k wr => ∃ (i q n : Nat), i ≤ 8 ∧ k = .float .f64 (ak i) ∧ p = .float .f64 q ∧ Sim .f64 q (pA (fop .mul .f64 (tS (fop .quo .f64 (fconv .f32 x .f64 % 9223372036854775808) (fconv .f32 y .f64 % 9223372036854775808)) 3) (tS (fop .quo .f64 (fconv .f32 x .f64 % 9223372036854775808) (fconv .f32 y .f64 % 9223372036854775808)) 3)) i) ∧ wr = w.drewN n) (fun _ k _ => akM k)
        case atStart => exact ⟨0, 0, _, by omega, rfl, rfl, Sim.refl _ _, rfl⟩
        case round =>
          obtain ⟨i, q2, n2, hi2, rfl, rfl, hq2, rfl⟩ := hrel
          by_cases hlt2 : i < 8
          · skip
            have hk := ak_ge i hlt2
            have HK := hid (ak_nan (i + 1) (by omega))
            have HD := hid (akM_dec i hlt2)
            go_wp2_with (refine wpList_fsim rfl _ _ _ _ _ rfl rfl .f64 _ _ rfl rfl (by first | with_reducible assumption | exact Sim.refl _ _) (by first | with_reducible assumption | exact Sim.refl _ _) ?_; intro r n hr hb)
            have hx := (sim_eq (show Sim .f64 r (ak (i + 1)) from hr) HK.out).symm
            subst hx
            go_roundw
            case rel => exact ⟨i + 1, _, _, by omega, rfl, rfl, by show Sim _ _ (fop .sub .f64 (fop .quo .f64 one (ak i)) (fop .mul .f64 (fop .mul .f64 (tS (fop .quo .f64 (fconv .f32 x .f64 % 9223372036854775808) (fconv .f32 y .f64 % 9223372036854775808)) 3) (tS (fop .quo .f64 (fconv .f32 x .f64 % 9223372036854775808) (fconv .f32 y .f64 % 9223372036854775808)) 3)) (pA (fop .mul .f64 (tS (fop .quo .f64 (fconv .f32 x .f64 % 9223372036854775808) (fconv .f32 y .f64 % 9223372036854775808)) 3) (tS (fop .quo .f64 (fconv .f32 x .f64 % 9223372036854775808) (fconv .f32 y .f64 % 9223372036854775808)) 3)) i))); with_reducible assumption, rfl⟩
            case measure => exact HD.out
          · obtain rfl : i = 8 := by omega
            have hk := ak_end
            go_wp2_with (first | (refine wpList_fcsim rfl _ _ _ rfl .f64 .f32 _ rfl (by first | with_reducible assumption | exact fits_neg (by with_reducible assumption)) u25 Try.underlying22 (by decide) (by first | with_reducible assumption | exact sim_neg (by with_reducible assumption) (fits_fop ..) (by with_reducible assumption)) ?_; intro r n hr hb) | (refine wpList_fsim rfl _ _ _ _ _ rfl rfl .f64 _ _ rfl rfl (by first | with_reducible assumption | exact Sim.refl _ _) (by first | with_reducible assumption | exact Sim.refl _ _) ?_; intro r n hr hb))
            go_ret
            exact ⟨_, _, rfl, rfl, by rw [E3.out]; exact hr (by rw [← E3.out]; exact HO.out), hb⟩
  · have hzy2 := hzy rfl
    clear hzy
    go_enter Try.func41, Try.ntmps41
    go_wp2_with (first | (go_at_call 56; refine (implFinite _ _).mono ?_; rintro e w' ⟨rfl, n, rfl⟩) | (refine wpList_up rfl _ _ _ rfl _ rfl (by with_reducible assumption) u22 Try.underlying25 (Sim.refl _ _) ?_; intro r n hr hb; first | (have hx := (sim_eq hr HNx.out).symm; subst hx; clear hr) | (have hx := (sim_eq hr HNy.out).symm; subst hx; clear hr)) | (go_at_call 59; refine (absW _ _ ?_).mono ?_; (exact fits64 (by with_reducible assumption)); rintro e w' ⟨rfl, rfl⟩) | (refine wpList_fsim rfl _ _ _ _ _ rfl rfl .f64 _ _ rfl rfl (by first | with_reducible assumption | exact Sim.refl _ _) (by first | with_reducible assumption | exact Sim.refl _ _) ?_; intro r n hr hb))
    go_loopw [7, 43] (fun t k wr => ∃ (i q n : Nat), i ≤ 3 ∧ k = .int .i64 i ∧ t = .float .f64 q ∧ Sim .f64 q (tS (fop .quo .f64 (fconv .f32 x .f64 % 9223372036854775808) (fconv .f32 y .f64 % 9223372036854775808)) i) ∧ wr = w.drewN n) (fun _ k _ => 3 - (intOf k).toNat)
    case atStart => exact ⟨0, _, _, by omega, rfl, rfl, by show Sim _ _ (fop .quo .f64 (fconv .f32 x .f64 % 9223372036854775808) (fconv .f32 y .f64 % 9223372036854775808)); with_reducible assumption, rfl⟩
    case round =>
      obtain ⟨j, q, n, hi, rfl, rfl, hq, rfl⟩ := hrel
      by_cases hlt : j < 3
      · go_wp2_with (first | (go_at_call 62; refine (sqrtW _ _ _ (by with_reducible assumption)).mono ?_; rintro e w' ⟨r, n, rfl, rfl, hr, hb⟩) | (refine wpList_fsim rfl _ _ _ _ _ rfl rfl .f64 _ _ rfl rfl (by first | with_reducible assumption | exact Sim.refl _ _) (by first | with_reducible assumption | exact Sim.refl _ _) ?_; intro r n hr hb))
        go_roundw
        case rel => exact ⟨j + 1, _, _, by omega, by go_num, rfl, by show Sim _ _ (fop .quo .f64 (tS (fop .quo .f64 (fconv .f32 x .f64 % 9223372036854775808) (fconv .f32 y .f64 % 9223372036854775808)) j) (den (tS (fop .quo .f64 (fconv .f32 x .f64 % 9223372036854775808) (fconv .f32 y .f64 % 9223372036854775808)) j))); unfold den; with_reducible assumption, rfl⟩
        case measure => simp [intOf]; omega
      · obtain rfl : j = 3 := by omega
        go_wp2_with (refine wpList_fsim rfl _ _ _ _ _ rfl rfl .f64 _ _ rfl rfl (by first | with_reducible assumption | exact Sim.refl _ _) (by first | with_reducible assumption | exact Sim.refl _ _) ?_; intro r n hr hb)
        go_loopw [9, 10] (fun p k wr => ∃ (i q n : Nat), i ≤ 8 ∧ k = .float .f64 (ak i) ∧ p = .float .f64 q ∧ Sim .f64 q (pA (fop .mul .f64 (tS (fop .quo .f64 (fconv .f32 x .f64 % 9223372036854775808) (fconv .f32 y .f64 % 9223372036854775808)) 3) (tS (fop .quo .f64 (fconv .f32 x .f64 % 9223372036854775808) (fconv .f32 y .f64 % 9223372036854775808)) 3)) i) ∧ wr = w.drewN n) (fun _ k _ => akM k)
        case atStart => exact ⟨0, 0, _, by omega, rfl, rfl, Sim.refl _ _, rfl⟩
        case round =>
          obtain ⟨i, q2, n2, hi2, rfl, rfl, hq2, rfl⟩ := hrel
          by_cases hlt2 : i < 8
          · skip
            have hk := ak_ge i hlt2
            have HK := hid (ak_nan (i + 1) (by omega))
            have HD := hid (akM_dec i hlt2)
            go_wp2_with (refine wpList_fsim rfl _ _ _ _ _ rfl rfl .f64 _ _ rfl rfl (by first | with_reducible assumption | exact Sim.refl _ _) (by first | with_reducible assumption | exact Sim.refl _ _) ?_; intro r n hr hb)
            have hx := (sim_eq (show Sim .f64 r (ak (i + 1)) from hr) HK.out).symm
            subst hx
            go_roundw
            case rel => exact ⟨i + 1, _, _, by omega, rfl, rfl, by show Sim _ _ (fop .sub .f64 (fop .quo .f64 one (ak i)) (fop .mul .f64 (fop .mul .f64 (tS (fop .quo .f64 (fconv .f32 x .f64 % 9223372036854775808) (fconv .f32 y .f64 % 9223372036854775808)) 3) (tS (fop .quo .f64 (fconv .f32 x .f64 % 9223372036854775808) (fconv .f32 y .f64 % 9223372036854775808)) 3)) (pA (fop .mul .f64 (tS (fop .quo .f64 (fconv .f32 x .f64 % 9223372036854775808) (fconv .f32 y .f64 % 9223372036854775808)) 3) (tS (fop .quo .f64 (fconv .f32 x .f64 % 9223372036854775808) (fconv .f32 y .f64 % 9223372036854775808)) 3)) i))); with_reducible assumption, rfl⟩
            case measure => exact HD.out
          · obtain rfl : i = 8 := by omega
            have hk := ak_end
            go_wp2_with (first | (refine wpList_fcsim rfl _ _ _ rfl .f64 .f32 _ rfl (by first | with_reducible assumption | exact fits_neg (by with_reducible assumption)) u25 Try.underlying22 (by decide) (by first | with_reducible assumption | exact sim_neg (by with_reducible assumption) (fits_fop ..) (by with_reducible assumption)) ?_; intro r n hr hb) | (refine wpList_fsim rfl _ _ _ _ _ rfl rfl .f64 _ _ rfl rfl (by first | with_reducible assumption | exact Sim.refl _ _) (by first | with_reducible assumption | exact Sim.refl _ _) ?_; intro r n hr hb))
            go_ret
            exact ⟨_, _, rfl, rfl, by rw [E3.out]; exact hr (by rw [← E3.out]; exact HO.out), hb⟩
set_option maxHeartbeats 2000000 in
theorem imAng101 (x y : Nat) (w : World) (hfx : Fits .f32 x) (hfy : Fits .f32 y) (gx : FinW Ieee.double (fconv .f32 x .f64)) (gy : FinW Ieee.double (fconv .f32 y .f64)) (ho : (FloatKind.f64.format.order (fconv .f32 y .f64 % 9223372036854775808) (fconv .f32 x .f64 % 9223372036854775808) == some .gt) = true) (hfinx : fin .f32 x = true) (hfiny : fin .f32 y = true) (hsx : (FloatKind.f32.format.order x 0 == some .lt) = false) (hsy : (FloatKind.f32.format.order y 0 == some .lt) = true) (zx : Bool) (hzx : (FloatKind.f32.format.order x 0 == some .eq) = zx) (hzy : zx = true → (FloatKind.f32.format.order y 0 == some .eq) = false) (hov : over .f64 (An3 true false true (fop .quo .f64 (fconv .f32 x .f64 % 9223372036854775808) (fconv .f32 y .f64 % 9223372036854775808))) .f32 = false) : Calls Try.prog 41 #[.float .f32 y, .float .f32 x] w (RetF .f32 (fconv .f64 (An3 true false true (fop .quo .f64 (fconv .f32 x .f64 % 9223372036854775808) (fconv .f32 y .f64 % 9223372036854775808))) .f32) w) := by
  have hneg := neg64A
  have HNx := hid (nan_of_fin (k := .f64) gx)
  have HNy := hid (nan_of_fin (k := .f64) gy)
  have E3 := hid (show An3 true false true (fop .quo .f64 (fconv .f32 x .f64 % 9223372036854775808) (fconv .f32 y .f64 % 9223372036854775808)) = fneg .f64 (fop .sub .f64 quarterA (fop .quo .f64 (fop .mul .f64 eight (fop .mul .f64 (tS (fop .quo .f64 (fconv .f32 x .f64 % 9223372036854775808) (fconv .f32 y .f64 % 9223372036854775808)) 3) (pA (fop .mul .f64 (tS (fop .quo .f64 (fconv .f32 x .f64 % 9223372036854775808) (fconv .f32 y .f64 % 9223372036854775808)) 3) (tS (fop .quo .f64 (fconv .f32 x .f64 % 9223372036854775808) (fconv .f32 y .f64 % 9223372036854775808)) 3)) 8))) twoPiA)) from rfl)
  have HO := hid hov
  clear gx gy hov
  cases zx
  · clear hzy
    go_enter Try.func41, Try.ntmps41
    go_wp2_with (first | (go_at_call 56; refine (implFinite _ _).mono ?_; rintro e w' ⟨rfl, n, rfl⟩) | (refine wpList_up rfl _ _ _ rfl _ rfl (by with_reducible assumption) u22 Try.underlying25 (Sim.refl _ _) ?_; intro r n hr hb; first | (have hx := (sim_eq hr HNx.out).symm; subst hx; clear hr) | (have hx := (sim_eq hr HNy.out).symm; subst hx; clear hr)) | (go_at_call 59; refine (absW _ _ ?_).mono ?_; (exact fits64 (by with_reducible assumption)); rintro e w' ⟨rfl, rfl⟩) | (refine wpList_fsim rfl _ _ _ _ _ rfl rfl .f64 _ _ rfl rfl (by first | with_reducible assumption | exact Sim.refl _ _) (by first | with_reducible assumption | exact Sim.refl _ _) ?_; intro r n hr hb))
    go_loopw [7, 43] (fun t k wr => ∃ (i q n : Nat), i ≤ 3 ∧ k = .int .i64 i ∧ t = .float .f64 q ∧ Sim .f64 q (tS (fop .quo .f64 (fconv .f32 x .f64 % 9223372036854775808) (fconv .f32 y .f64 % 9223372036854775808)) i) ∧ wr = w.drewN n) (fun _ k _ => 3 - (intOf k).toNat)
    case atStart => exact ⟨0, _, _, by omega, rfl, rfl, by show Sim _ _ (fop .quo .f64 (fconv .f32 x .f64 % 9223372036854775808) (fconv .f32 y .f64 % 9223372036854775808)); with_reducible assumption, rfl⟩
    case round =>
      obtain ⟨j, q, n, hi, rfl, rfl, hq, rfl⟩ := hrel
      by_cases hlt : j < 3
      · go_wp2_with (first | (go_at_call 62; refine (sqrtW _ _ _ (by with_reducible assumption)).mono ?_; rintro e w' ⟨r, n, rfl, rfl, hr, hb⟩) | (refine wpList_fsim rfl _ _ _ _ _ rfl rfl .f64 _ _ rfl rfl (by first | with_reducible assumption | exact Sim.refl _ _) (by first | with_reducible assumption | exact Sim.refl _ _) ?_; intro r n hr hb))
        go_roundw
        case rel => exact ⟨j + 1, _, _, by omega, by go_num, rfl, by show Sim _ _ (fop .quo .f64 (tS (fop .quo .f64 (fconv .f32 x .f64 % 9223372036854775808) (fconv .f32 y .f64 % 9223372036854775808)) j) (den (tS (fop .quo .f64 (fconv .f32 x .f64 % 9223372036854775808) (fconv .f32 y .f64 % 9223372036854775808)) j))); unfold den; with_reducible assumption, rfl⟩
        case measure => simp [intOf]; omega
      · obtain rfl : j = 3 := by omega
        go_wp2_with (refine wpList_fsim rfl _ _ _ _ _ rfl rfl .f64 _ _ rfl rfl (by first | with_reducible assumption | exact Sim.refl _ _) (by first | with_reducible assumption | exact Sim.refl _ _) ?_; intro r n hr hb)
        go_loopw [9, 10] (fun p k wr => ∃ (i q n : Nat), i ≤ 8 ∧ k = .float .f64 (ak i) ∧ p = .float .f64 q ∧ Sim .f64 q (pA (fop .mul .f64 (tS (fop .quo .f64 (fconv .f32 x .f64 % 9223372036854775808) (fconv .f32 y .f64 % 9223372036854775808)) 3) (tS (fop .quo .f64 (fconv .f32 x .f64 % 9223372036854775808) (fconv .f32 y .f64 % 9223372036854775808)) 3)) i) ∧ wr = w.drewN n) (fun _ k _ => akM k)
        case atStart => exact ⟨0, 0, _, by omega, rfl, rfl, Sim.refl _ _, rfl⟩
        case round =>
          obtain ⟨i, q2, n2, hi2, rfl, rfl, hq2, rfl⟩ := hrel
          by_cases hlt2 : i < 8
          · skip
            have hk := ak_ge i hlt2
            have HK := hid (ak_nan (i + 1) (by omega))
            have HD := hid (akM_dec i hlt2)
            go_wp2_with (refine wpList_fsim rfl _ _ _ _ _ rfl rfl .f64 _ _ rfl rfl (by first | with_reducible assumption | exact Sim.refl _ _) (by first | with_reducible assumption | exact Sim.refl _ _) ?_; intro r n hr hb)
            have hx := (sim_eq (show Sim .f64 r (ak (i + 1)) from hr) HK.out).symm
            subst hx
            go_roundw
            case rel => exact ⟨i + 1, _, _, by omega, rfl, rfl, by show Sim _ _ (fop .sub .f64 (fop .quo .f64 one (ak i)) (fop .mul .f64 (fop .mul .f64 (tS (fop .quo .f64 (fconv .f32 x .f64 % 9223372036854775808) (fconv .f32 y .f64 % 9223372036854775808)) 3) (tS (fop .quo .f64 (fconv .f32 x .f64 % 9223372036854775808) (fconv .f32 y .f64 % 9223372036854775808)) 3)) (pA (fop .mul .f64 (tS (fop .quo .f64 (fconv .f32 x .f64 % 9223372036854775808) (fconv .f32 y .f64 % 9223372036854775808)) 3) (tS (fop .quo .f64 (fconv .f32 x .f64 % 9223372036854775808) (fconv .f32 y .f64 % 9223372036854775808)) 3)) i))); with_reducible assumption, rfl⟩
            case measure => exact HD.out
          · obtain rfl : i = 8 := by omega
            have hk := ak_end
            go_wp2_with (first | (refine wpList_fcsim rfl _ _ _ rfl .f64 .f32 _ rfl (by first | with_reducible assumption | exact fits_neg (by with_reducible assumption)) u25 Try.underlying22 (by decide) (by first | with_reducible assumption | exact sim_neg (by with_reducible assumption) (fits_fop ..) (by with_reducible assumption)) ?_; intro r n hr hb) | (refine wpList_fsim rfl _ _ _ _ _ rfl rfl .f64 _ _ rfl rfl (by first | with_reducible assumption | exact Sim.refl _ _) (by first | with_reducible assumption | exact Sim.refl _ _) ?_; intro r n hr hb))
            go_ret
            exact ⟨_, _, rfl, rfl, by rw [E3.out]; exact hr (by rw [← E3.out]; exact HO.out), hb⟩
  · have hzy2 := hzy rfl
    clear hzy
    go_enter Try.func41, Try.ntmps41
    go_wp2_with (first | (go_at_call 56; refine (implFinite _ _).mono ?_; rintro e w' ⟨rfl, n, rfl⟩) | (refine wpList_up rfl _ _ _ rfl _ rfl (by with_reducible assumption) u22 Try.underlying25 (Sim.refl _ _) ?_; intro r n hr hb; first | (have hx := (sim_eq hr HNx.out).symm; subst hx; clear hr) | (have hx := (sim_eq hr HNy.out).symm; subst hx; clear hr)) | (go_at_call 59; refine (absW _ _ ?_).mono ?_; (exact fits64 (by with_reducible assumption)); rintro e w' ⟨rfl, rfl⟩) | (refine wpList_fsim rfl _ _ _ _ _ rfl rfl .f64 _ _ rfl rfl (by first | with_reducible assumption | exact Sim.refl _ _) (by first | with_reducible assumption | exact Sim.refl _ _) ?_; intro r n hr hb))
    go_loopw [7, 43] (fun t k wr => ∃ (i q n : Nat), i ≤ 3 ∧ k = .int .i64 i ∧ t = .float .f64 q ∧ Sim .f64 q (tS (fop .quo .f64 (fconv .f32 x .f64 % 9223372036854775808) (fconv .f32 y .f64 % 9223372036854775808)) i) ∧ wr = w.drewN n) (fun _ k _ => 3 - (intOf k).toNat)
    case atStart => exact ⟨0, _, _, by omega, rfl, rfl, by show Sim _ _ (fop .quo .f64 (fconv .f32 x .f64 % 9223372036854775808) (fconv .f32 y .f64 % 9223372036854775808)); with_reducible assumption, rfl⟩
    case round =>
      obtain ⟨j, q, n, hi, rfl, rfl, hq, rfl⟩ := hrel
      by_cases hlt : j < 3
      · go_wp2_with (first | (go_at_call 62; refine (sqrtW _ _ _ (by with_reducible assumption)).mono ?_; rintro e w' ⟨r, n, rfl, rfl, hr, hb⟩) | (refine wpList_fsim rfl _ _ _ _ _ rfl rfl .f64 _ _ rfl rfl (by first | with_reducible assumption | exact Sim.refl _ _) (by first | with_reducible assumption | exact Sim.refl _ _) ?_; intro r n hr hb))
        go_roundw
        case rel => exact ⟨j + 1, _, _, by omega, by go_num, rfl, by show Sim _ _ (fop .quo .f64 (tS (fop .quo .f64 (fconv .f32 x .f64 % 9223372036854775808) (fconv .f32 y .f64 % 9223372036854775808)) j) (den (tS (fop .quo .f64 (fconv .f32 x .f64 % 9223372036854775808) (fconv .f32 y .f64 % 9223372036854775808)) j))); unfold den; with_reducible assumption, rfl⟩
        case measure => simp [intOf]; omega
      · obtain rfl : j = 3 := by omega
        go_wp2_with (refine wpList_fsim rfl _ _ _ _ _ rfl rfl .f64 _ _ rfl rfl (by first | with_reducible assumption | exact Sim.refl _ _) (by first | with_reducible assumption | exact Sim.refl _ _) ?_; intro r n hr hb)
        go_loopw [9, 10] (fun p k wr => ∃ (i q n : Nat), i ≤ 8 ∧ k = .float .f64 (ak i) ∧ p = .float .f64 q ∧ Sim .f64 q (pA (fop .mul .f64 (tS (fop .quo .f64 (fconv .f32 x .f64 % 9223372036854775808) (fconv .f32 y .f64 % 9223372036854775808)) 3) (tS (fop .quo .f64 (fconv .f32 x .f64 % 9223372036854775808) (fconv .f32 y .f64 % 9223372036854775808)) 3)) i) ∧ wr = w.drewN n) (fun _ k _ => akM k)
        case atStart => exact ⟨0, 0, _, by omega, rfl, rfl, Sim.refl _ _, rfl⟩
        case round =>
          obtain ⟨i, q2, n2, hi2, rfl, rfl, hq2, rfl⟩ := hrel
          by_cases hlt2 : i < 8
          · skip
            have hk := ak_ge i hlt2
            have HK := hid (ak_nan (i + 1) (by omega))
            have HD := hid (akM_dec i hlt2)
            go_wp2_with (refine wpList_fsim rfl _ _ _ _ _ rfl rfl .f64 _ _ rfl rfl (by first | with_reducible assumption | exact Sim.refl _ _) (by first | with_reducible assumption | exact Sim.refl _ _) ?_; intro r n hr hb)
            have hx := (sim_eq (show Sim .f64 r (ak (i + 1)) from hr) HK.out).symm
            subst hx
            go_roundw
            case rel => exact ⟨i + 1, _, _, by omega, rfl, rfl, by show Sim _ _ (fop .sub .f64 (fop .quo .f64 one (ak i)) (fop .mul .f64 (fop .mul .f64 (tS (fop .quo .f64 (fconv .f32 x .f64 % 9223372036854775808) (fconv .f32 y .f64 % 9223372036854775808)) 3) (tS (fop .quo .f64 (fconv .f32 x .f64 % 9223372036854775808) (fconv .f32 y .f64 % 9223372036854775808)) 3)) (pA (fop .mul .f64 (tS (fop .quo .f64 (fconv .f32 x .f64 % 9223372036854775808) (fconv .f32 y .f64 % 9223372036854775808)) 3) (tS (fop .quo .f64 (fconv .f32 x .f64 % 9223372036854775808) (fconv .f32 y .f64 % 9223372036854775808)) 3)) i))); with_reducible assumption, rfl⟩
            case measure => exact HD.out
          · obtain rfl : i = 8 := by omega
            have hk := ak_end
            go_wp2_with (first | (refine wpList_fcsim rfl _ _ _ rfl .f64 .f32 _ rfl (by first | with_reducible assumption | exact fits_neg (by with_reducible assumption)) u25 Try.underlying22 (by decide) (by first | with_reducible assumption | exact sim_neg (by with_reducible assumption) (fits_fop ..) (by with_reducible assumption)) ?_; intro r n hr hb) | (refine wpList_fsim rfl _ _ _ _ _ rfl rfl .f64 _ _ rfl rfl (by first | with_reducible assumption | exact Sim.refl _ _) (by first | with_reducible assumption | exact Sim.refl _ _) ?_; intro r n hr hb))
            go_ret
            exact ⟨_, _, rfl, rfl, by rw [E3.out]; exact hr (by rw [← E3.out]; exact HO.out), hb⟩
set_option maxHeartbeats 2000000 in
theorem imAng110 (x y : Nat) (w : World) (hfx : Fits .f32 x) (hfy : Fits .f32 y) (gx : FinW Ieee.double (fconv .f32 x .f64)) (gy : FinW Ieee.double (fconv .f32 y .f64)) (ho : (FloatKind.f64.format.order (fconv .f32 y .f64 % 9223372036854775808) (fconv .f32 x .f64 % 9223372036854775808) == some .gt) = true) (hfinx : fin .f32 x = true) (hfiny : fin .f32 y = true) (hsx : (FloatKind.f32.format.order x 0 == some .lt) = true) (hsy : (FloatKind.f32.format.order y 0 == some .lt) = false) (zx : Bool) (hzx : (FloatKind.f32.format.order x 0 == some .eq) = zx) (hzy : zx = true → (FloatKind.f32.format.order y 0 == some .eq) = false) (hov : over .f64 (An3 true true false (fop .quo .f64 (fconv .f32 x .f64 % 9223372036854775808) (fconv .f32 y .f64 % 9223372036854775808))) .f32 = false) : Calls Try.prog 41 #[.float .f32 y, .float .f32 x] w (RetF .f32 (fconv .f64 (An3 true true false (fop .quo .f64 (fconv .f32 x .f64 % 9223372036854775808) (fconv .f32 y .f64 % 9223372036854775808))) .f32) w) := by
  have hneg := neg64A
  have HNx := hid (nan_of_fin (k := .f64) gx)
  have HNy := hid (nan_of_fin (k := .f64) gy)
  have E3 := hid (show An3 true true false (fop .quo .f64 (fconv .f32 x .f64 % 9223372036854775808) (fconv .f32 y .f64 % 9223372036854775808)) = fop .sub .f64 halfA (fop .sub .f64 quarterA (fop .quo .f64 (fop .mul .f64 eight (fop .mul .f64 (tS (fop .quo .f64 (fconv .f32 x .f64 % 9223372036854775808) (fconv .f32 y .f64 % 9223372036854775808)) 3) (pA (fop .mul .f64 (tS (fop .quo .f64 (fconv .f32 x .f64 % 9223372036854775808) (fconv .f32 y .f64 % 9223372036854775808)) 3) (tS (fop .quo .f64 (fconv .f32 x .f64 % 9223372036854775808) (fconv .f32 y .f64 % 9223372036854775808)) 3)) 8))) twoPiA)) from rfl)
  have HO := hid hov
  clear gx gy hov
  cases zx
  · clear hzy
    go_enter Try.func41, Try.ntmps41
    go_wp2_with (first | (go_at_call 56; refine (implFinite _ _).mono ?_; rintro e w' ⟨rfl, n, rfl⟩) | (refine wpList_up rfl _ _ _ rfl _ rfl (by with_reducible assumption) u22 Try.underlying25 (Sim.refl _ _) ?_; intro r n hr hb; first | (have hx := (sim_eq hr HNx.out).symm; subst hx; clear hr) | (have hx := (sim_eq hr HNy.out).symm; subst hx; clear hr)) | (go_at_call 59; refine (absW _ _ ?_).mono ?_; (exact fits64 (by with_reducible assumption)); rintro e w' ⟨rfl, rfl⟩) | (refine wpList_fsim rfl _ _ _ _ _ rfl rfl .f64 _ _ rfl rfl (by first | with_reducible assumption | exact Sim.refl _ _) (by first | with_reducible assumption | exact Sim.refl _ _) ?_; intro r n hr hb))
    go_loopw [7, 43] (fun t k wr => ∃ (i q n : Nat), i ≤ 3 ∧ k = .int .i64 i ∧ t = .float .f64 q ∧ Sim .f64 q (tS (fop .quo .f64 (fconv .f32 x .f64 % 9223372036854775808) (fconv .f32 y .f64 % 9223372036854775808)) i) ∧ wr = w.drewN n) (fun _ k _ => 3 - (intOf k).toNat)
    case atStart => exact ⟨0, _, _, by omega, rfl, rfl, by show Sim _ _ (fop .quo .f64 (fconv .f32 x .f64 % 9223372036854775808) (fconv .f32 y .f64 % 9223372036854775808)); with_reducible assumption, rfl⟩
    case round =>
      obtain ⟨j, q, n, hi, rfl, rfl, hq, rfl⟩ := hrel
      by_cases hlt : j < 3
      · go_wp2_with (first | (go_at_call 62; refine (sqrtW _ _ _ (by with_reducible assumption)).mono ?_; rintro e w' ⟨r, n, rfl, rfl, hr, hb⟩) | (refine wpList_fsim rfl _ _ _ _ _ rfl rfl .f64 _ _ rfl rfl (by first | with_reducible assumption | exact Sim.refl _ _) (by first | with_reducible assumption | exact Sim.refl _ _) ?_; intro r n hr hb))
        go_roundw
        case rel => exact ⟨j + 1, _, _, by omega, by go_num, rfl, by show Sim _ _ (fop .quo .f64 (tS (fop .quo .f64 (fconv .f32 x .f64 % 9223372036854775808) (fconv .f32 y .f64 % 9223372036854775808)) j) (den (tS (fop .quo .f64 (fconv .f32 x .f64 % 9223372036854775808) (fconv .f32 y .f64 % 9223372036854775808)) j))); unfold den; with_reducible assumption, rfl⟩
        case measure => simp [intOf]; omega
      · obtain rfl : j = 3 := by omega
        go_wp2_with (refine wpList_fsim rfl _ _ _ _ _ rfl rfl .f64 _ _ rfl rfl (by first | with_reducible assumption | exact Sim.refl _ _) (by first | with_reducible assumption | exact Sim.refl _ _) ?_; intro r n hr hb)
        go_loopw [9, 10] (fun p k wr => ∃ (i q n : Nat), i ≤ 8 ∧ k = .float .f64 (ak i) ∧ p = .float .f64 q ∧ Sim .f64 q (pA (fop .mul .f64 (tS (fop .quo .f64 (fconv .f32 x .f64 % 9223372036854775808) (fconv .f32 y .f64 % 9223372036854775808)) 3) (tS (fop .quo .f64 (fconv .f32 x .f64 % 9223372036854775808) (fconv .f32 y .f64 % 9223372036854775808)) 3)) i) ∧ wr = w.drewN n) (fun _ k _ => akM k)
        case atStart => exact ⟨0, 0, _, by omega, rfl, rfl, Sim.refl _ _, rfl⟩
        case round =>
          obtain ⟨i, q2, n2, hi2, rfl, rfl, hq2, rfl⟩ := hrel
          by_cases hlt2 : i < 8
          · skip
            have hk := ak_ge i hlt2
            have HK := hid (ak_nan (i + 1) (by omega))
            have HD := hid (akM_dec i hlt2)
            go_wp2_with (refine wpList_fsim rfl _ _ _ _ _ rfl rfl .f64 _ _ rfl rfl (by first | with_reducible assumption | exact Sim.refl _ _) (by first | with_reducible assumption | exact Sim.refl _ _) ?_; intro r n hr hb)
            have hx := (sim_eq (show Sim .f64 r (ak (i + 1)) from hr) HK.out).symm
            subst hx
            go_roundw
            case rel => exact ⟨i + 1, _, _, by omega, rfl, rfl, by show Sim _ _ (fop .sub .f64 (fop .quo .f64 one (ak i)) (fop .mul .f64 (fop .mul .f64 (tS (fop .quo .f64 (fconv .f32 x .f64 % 9223372036854775808) (fconv .f32 y .f64 % 9223372036854775808)) 3) (tS (fop .quo .f64 (fconv .f32 x .f64 % 9223372036854775808) (fconv .f32 y .f64 % 9223372036854775808)) 3)) (pA (fop .mul .f64 (tS (fop .quo .f64 (fconv .f32 x .f64 % 9223372036854775808) (fconv .f32 y .f64 % 9223372036854775808)) 3) (tS (fop .quo .f64 (fconv .f32 x .f64 % 9223372036854775808) (fconv .f32 y .f64 % 9223372036854775808)) 3)) i))); with_reducible assumption, rfl⟩
            case measure => exact HD.out
          · obtain rfl : i = 8 := by omega
            have hk := ak_end
            go_wp2_with (first | (refine wpList_fcsim rfl _ _ _ rfl .f64 .f32 _ rfl (by first | with_reducible assumption | exact fits_neg (by with_reducible assumption)) u25 Try.underlying22 (by decide) (by first | with_reducible assumption | exact sim_neg (by with_reducible assumption) (fits_fop ..) (by with_reducible assumption)) ?_; intro r n hr hb) | (refine wpList_fsim rfl _ _ _ _ _ rfl rfl .f64 _ _ rfl rfl (by first | with_reducible assumption | exact Sim.refl _ _) (by first | with_reducible assumption | exact Sim.refl _ _) ?_; intro r n hr hb))
            go_ret
            exact ⟨_, _, rfl, rfl, by rw [E3.out]; exact hr (by rw [← E3.out]; exact HO.out), hb⟩
  · have hzy2 := hzy rfl
    clear hzy
    go_enter Try.func41, Try.ntmps41
    go_wp2_with (first | (go_at_call 56; refine (implFinite _ _).mono ?_; rintro e w' ⟨rfl, n, rfl⟩) | (refine wpList_up rfl _ _ _ rfl _ rfl (by with_reducible assumption) u22 Try.underlying25 (Sim.refl _ _) ?_; intro r n hr hb; first | (have hx := (sim_eq hr HNx.out).symm; subst hx; clear hr) | (have hx := (sim_eq hr HNy.out).symm; subst hx; clear hr)) | (go_at_call 59; refine (absW _ _ ?_).mono ?_; (exact fits64 (by with_reducible assumption)); rintro e w' ⟨rfl, rfl⟩) | (refine wpList_fsim rfl _ _ _ _ _ rfl rfl .f64 _ _ rfl rfl (by first | with_reducible assumption | exact Sim.refl _ _) (by first | with_reducible assumption | exact Sim.refl _ _) ?_; intro r n hr hb))
    go_loopw [7, 43] (fun t k wr => ∃ (i q n : Nat), i ≤ 3 ∧ k = .int .i64 i ∧ t = .float .f64 q ∧ Sim .f64 q (tS (fop .quo .f64 (fconv .f32 x .f64 % 9223372036854775808) (fconv .f32 y .f64 % 9223372036854775808)) i) ∧ wr = w.drewN n) (fun _ k _ => 3 - (intOf k).toNat)
    case atStart => exact ⟨0, _, _, by omega, rfl, rfl, by show Sim _ _ (fop .quo .f64 (fconv .f32 x .f64 % 9223372036854775808) (fconv .f32 y .f64 % 9223372036854775808)); with_reducible assumption, rfl⟩
    case round =>
      obtain ⟨j, q, n, hi, rfl, rfl, hq, rfl⟩ := hrel
      by_cases hlt : j < 3
      · go_wp2_with (first | (go_at_call 62; refine (sqrtW _ _ _ (by with_reducible assumption)).mono ?_; rintro e w' ⟨r, n, rfl, rfl, hr, hb⟩) | (refine wpList_fsim rfl _ _ _ _ _ rfl rfl .f64 _ _ rfl rfl (by first | with_reducible assumption | exact Sim.refl _ _) (by first | with_reducible assumption | exact Sim.refl _ _) ?_; intro r n hr hb))
        go_roundw
        case rel => exact ⟨j + 1, _, _, by omega, by go_num, rfl, by show Sim _ _ (fop .quo .f64 (tS (fop .quo .f64 (fconv .f32 x .f64 % 9223372036854775808) (fconv .f32 y .f64 % 9223372036854775808)) j) (den (tS (fop .quo .f64 (fconv .f32 x .f64 % 9223372036854775808) (fconv .f32 y .f64 % 9223372036854775808)) j))); unfold den; with_reducible assumption, rfl⟩
        case measure => simp [intOf]; omega
      · obtain rfl : j = 3 := by omega
        go_wp2_with (refine wpList_fsim rfl _ _ _ _ _ rfl rfl .f64 _ _ rfl rfl (by first | with_reducible assumption | exact Sim.refl _ _) (by first | with_reducible assumption | exact Sim.refl _ _) ?_; intro r n hr hb)
        go_loopw [9, 10] (fun p k wr => ∃ (i q n : Nat), i ≤ 8 ∧ k = .float .f64 (ak i) ∧ p = .float .f64 q ∧ Sim .f64 q (pA (fop .mul .f64 (tS (fop .quo .f64 (fconv .f32 x .f64 % 9223372036854775808) (fconv .f32 y .f64 % 9223372036854775808)) 3) (tS (fop .quo .f64 (fconv .f32 x .f64 % 9223372036854775808) (fconv .f32 y .f64 % 9223372036854775808)) 3)) i) ∧ wr = w.drewN n) (fun _ k _ => akM k)
        case atStart => exact ⟨0, 0, _, by omega, rfl, rfl, Sim.refl _ _, rfl⟩
        case round =>
          obtain ⟨i, q2, n2, hi2, rfl, rfl, hq2, rfl⟩ := hrel
          by_cases hlt2 : i < 8
          · skip
            have hk := ak_ge i hlt2
            have HK := hid (ak_nan (i + 1) (by omega))
            have HD := hid (akM_dec i hlt2)
            go_wp2_with (refine wpList_fsim rfl _ _ _ _ _ rfl rfl .f64 _ _ rfl rfl (by first | with_reducible assumption | exact Sim.refl _ _) (by first | with_reducible assumption | exact Sim.refl _ _) ?_; intro r n hr hb)
            have hx := (sim_eq (show Sim .f64 r (ak (i + 1)) from hr) HK.out).symm
            subst hx
            go_roundw
            case rel => exact ⟨i + 1, _, _, by omega, rfl, rfl, by show Sim _ _ (fop .sub .f64 (fop .quo .f64 one (ak i)) (fop .mul .f64 (fop .mul .f64 (tS (fop .quo .f64 (fconv .f32 x .f64 % 9223372036854775808) (fconv .f32 y .f64 % 9223372036854775808)) 3) (tS (fop .quo .f64 (fconv .f32 x .f64 % 9223372036854775808) (fconv .f32 y .f64 % 9223372036854775808)) 3)) (pA (fop .mul .f64 (tS (fop .quo .f64 (fconv .f32 x .f64 % 9223372036854775808) (fconv .f32 y .f64 % 9223372036854775808)) 3) (tS (fop .quo .f64 (fconv .f32 x .f64 % 9223372036854775808) (fconv .f32 y .f64 % 9223372036854775808)) 3)) i))); with_reducible assumption, rfl⟩
            case measure => exact HD.out
          · obtain rfl : i = 8 := by omega
            have hk := ak_end
            go_wp2_with (first | (refine wpList_fcsim rfl _ _ _ rfl .f64 .f32 _ rfl (by first | with_reducible assumption | exact fits_neg (by with_reducible assumption)) u25 Try.underlying22 (by decide) (by first | with_reducible assumption | exact sim_neg (by with_reducible assumption) (fits_fop ..) (by with_reducible assumption)) ?_; intro r n hr hb) | (refine wpList_fsim rfl _ _ _ _ _ rfl rfl .f64 _ _ rfl rfl (by first | with_reducible assumption | exact Sim.refl _ _) (by first | with_reducible assumption | exact Sim.refl _ _) ?_; intro r n hr hb))
            go_ret
            exact ⟨_, _, rfl, rfl, by rw [E3.out]; exact hr (by rw [← E3.out]; exact HO.out), hb⟩
set_option maxHeartbeats 2000000 in
theorem imAng111 (x y : Nat) (w : World) (hfx : Fits .f32 x) (hfy : Fits .f32 y) (gx : FinW Ieee.double (fconv .f32 x .f64)) (gy : FinW Ieee.double (fconv .f32 y .f64)) (ho : (FloatKind.f64.format.order (fconv .f32 y .f64 % 9223372036854775808) (fconv .f32 x .f64 % 9223372036854775808) == some .gt) = true) (hfinx : fin .f32 x = true) (hfiny : fin .f32 y = true) (hsx : (FloatKind.f32.format.order x 0 == some .lt) = true) (hsy : (FloatKind.f32.format.order y 0 == some .lt) = true) (zx : Bool) (hzx : (FloatKind.f32.format.order x 0 == some .eq) = zx) (hzy : zx = true → (FloatKind.f32.format.order y 0 == some .eq) = false) (hov : over .f64 (An3 true true true (fop .quo .f64 (fconv .f32 x .f64 % 9223372036854775808) (fconv .f32 y .f64 % 9223372036854775808))) .f32 = false) : Calls Try.prog 41 #[.float .f32 y, .float .f32 x] w (RetF .f32 (fconv .f64 (An3 true true true (fop .quo .f64 (fconv .f32 x .f64 % 9223372036854775808) (fconv .f32 y .f64 % 9223372036854775808))) .f32) w) := by
  have hneg := neg64A
  have HNx := hid (nan_of_fin (k := .f64) gx)
  have HNy := hid (nan_of_fin (k := .f64) gy)
  have E3 := hid (show An3 true true true (fop .quo .f64 (fconv .f32 x .f64 % 9223372036854775808) (fconv .f32 y .f64 % 9223372036854775808)) = fneg .f64 (fop .sub .f64 halfA (fop .sub .f64 quarterA (fop .quo .f64 (fop .mul .f64 eight (fop .mul .f64 (tS (fop .quo .f64 (fconv .f32 x .f64 % 9223372036854775808) (fconv .f32 y .f64 % 9223372036854775808)) 3) (pA (fop .mul .f64 (tS (fop .quo .f64 (fconv .f32 x .f64 % 9223372036854775808) (fconv .f32 y .f64 % 9223372036854775808)) 3) (tS (fop .quo .f64 (fconv .f32 x .f64 % 9223372036854775808) (fconv .f32 y .f64 % 9223372036854775808)) 3)) 8))) twoPiA))) from rfl)
  have HO := hid hov
  clear gx gy hov
  cases zx
  · clear hzy
    go_enter Try.func41, Try.ntmps41
    go_wp2_with (first | (go_at_call 56; refine (implFinite _ _).mono ?_; rintro e w' ⟨rfl, n, rfl⟩) | (refine wpList_up rfl _ _ _ rfl _ rfl (by with_reducible assumption) u22 Try.underlying25 (Sim.refl _ _) ?_; intro r n hr hb; first | (have hx := (sim_eq hr HNx.out).symm; subst hx; clear hr) | (have hx := (sim_eq hr HNy.out).symm; subst hx; clear hr)) | (go_at_call 59; refine (absW _ _ ?_).mono ?_; (exact fits64 (by with_reducible assumption)); rintro e w' ⟨rfl, rfl⟩) | (refine wpList_fsim rfl _ _ _ _ _ rfl rfl .f64 _ _ rfl rfl (by first | with_reducible assumption | exact Sim.refl _ _) (by first | with_reducible assumption | exact Sim.refl _ _) ?_; intro r n hr hb))
    go_loopw [7, 43] (fun t k wr => ∃ (i q n : Nat), i ≤ 3 ∧ k = .int .i64 i ∧ t = .float .f64 q ∧ Sim .f64 q (tS (fop .quo .f64 (fconv .f32 x .f64 % 9223372036854775808) (fconv .f32 y .f64 % 9223372036854775808)) i) ∧ wr = w.drewN n) (fun _ k _ => 3 - (intOf k).toNat)
    case atStart => exact ⟨0, _, _, by omega, rfl, rfl, by show Sim _ _ (fop .quo .f64 (fconv .f32 x .f64 % 9223372036854775808) (fconv .f32 y .f64 % 9223372036854775808)); with_reducible assumption, rfl⟩
    case round =>
      obtain ⟨j, q, n, hi, rfl, rfl, hq, rfl⟩ := hrel
      by_cases hlt : j < 3
      · go_wp2_with (first | (go_at_call 62; refine (sqrtW _ _ _ (by with_reducible assumption)).mono ?_; rintro e w' ⟨r, n, rfl, rfl, hr, hb⟩) | (refine wpList_fsim rfl _ _ _ _ _ rfl rfl .f64 _ _ rfl rfl (by first | with_reducible assumption | exact Sim.refl _ _) (by first | with_reducible assumption | exact Sim.refl _ _) ?_; intro r n hr hb))
        go_roundw
        case rel => exact ⟨j + 1, _, _, by omega, by go_num, rfl, by show Sim _ _ (fop .quo .f64 (tS (fop .quo .f64 (fconv .f32 x .f64 % 9223372036854775808) (fconv .f32 y .f64 % 9223372036854775808)) j) (den (tS (fop .quo .f64 (fconv .f32 x .f64 % 9223372036854775808) (fconv .f32 y .f64 % 9223372036854775808)) j))); unfold den; with_reducible assumption, rfl⟩
        case measure => simp [intOf]; omega
      · obtain rfl : j = 3 := by omega
        go_wp2_with (refine wpList_fsim rfl _ _ _ _ _ rfl rfl .f64 _ _ rfl rfl (by first | with_reducible assumption | exact Sim.refl _ _) (by first | with_reducible assumption | exact Sim.refl _ _) ?_; intro r n hr hb)
        go_loopw [9, 10] (fun p k wr => ∃ (i q n : Nat), i ≤ 8 ∧ k = .float .f64 (ak i) ∧ p = .float .f64 q ∧ Sim .f64 q (pA (fop .mul .f64 (tS (fop .quo .f64 (fconv .f32 x .f64 % 9223372036854775808) (fconv .f32 y .f64 % 9223372036854775808)) 3) (tS (fop .quo .f64 (fconv .f32 x .f64 % 9223372036854775808) (fconv .f32 y .f64 % 9223372036854775808)) 3)) i) ∧ wr = w.drewN n) (fun _ k _ => akM k)
        case atStart => exact ⟨0, 0, _, by omega, rfl, rfl, Sim.refl _ _, rfl⟩
        case round =>
          obtain ⟨i, q2, n2, hi2, rfl, rfl, hq2, rfl⟩ := hrel
          by_cases hlt2 : i < 8
          · skip
            have hk := ak_ge i hlt2
            have HK := hid (ak_nan (i + 1) (by omega))
            have HD := hid (akM_dec i hlt2)
            go_wp2_with (refine wpList_fsim rfl _ _ _ _ _ rfl rfl .f64 _ _ rfl rfl (by first | with_reducible assumption | exact Sim.refl _ _) (by first | with_reducible assumption | exact Sim.refl _ _) ?_; intro r n hr hb)
            have hx := (sim_eq (show Sim .f64 r (ak (i + 1)) from hr) HK.out).symm
            subst hx
            go_roundw
            case rel => exact ⟨i + 1, _, _, by omega, rfl, rfl, by show Sim _ _ (fop .sub .f64 (fop .quo .f64 one (ak i)) (fop .mul .f64 (fop .mul .f64 (tS (fop .quo .f64 (fconv .f32 x .f64 % 9223372036854775808) (fconv .f32 y .f64 % 9223372036854775808)) 3) (tS (fop .quo .f64 (fconv .f32 x .f64 % 9223372036854775808) (fconv .f32 y .f64 % 9223372036854775808)) 3)) (pA (fop .mul .f64 (tS (fop .quo .f64 (fconv .f32 x .f64 % 9223372036854775808) (fconv .f32 y .f64 % 9223372036854775808)) 3) (tS (fop .quo .f64 (fconv .f32 x .f64 % 9223372036854775808) (fconv .f32 y .f64 % 9223372036854775808)) 3)) i))); with_reducible assumption, rfl⟩
            case measure => exact HD.out
          · obtain rfl : i = 8 := by omega
            have hk := ak_end
            go_wp2_with (first | (refine wpList_fcsim rfl _ _ _ rfl .f64 .f32 _ rfl (by first | with_reducible assumption | exact fits_neg (by with_reducible assumption)) u25 Try.underlying22 (by decide) (by first | with_reducible assumption | exact sim_neg (by with_reducible assumption) (fits_fop ..) (by with_reducible assumption)) ?_; intro r n hr hb) | (refine wpList_fsim rfl _ _ _ _ _ rfl rfl .f64 _ _ rfl rfl (by first | with_reducible assumption | exact Sim.refl _ _) (by first | with_reducible assumption | exact Sim.refl _ _) ?_; intro r n hr hb))
            go_ret
            exact ⟨_, _, rfl, rfl, by rw [E3.out]; exact hr (by rw [← E3.out]; exact HO.out), hb⟩
  · have hzy2 := hzy rfl
    clear hzy
    go_enter Try.func41, Try.ntmps41
    go_wp2_with (first | (go_at_call 56; refine (implFinite _ _).mono ?_; rintro e w' ⟨rfl, n, rfl⟩) | (refine wpList_up rfl _ _ _ rfl _ rfl (by with_reducible assumption) u22 Try.underlying25 (Sim.refl _ _) ?_; intro r n hr hb; first | (have hx := (sim_eq hr HNx.out).symm; subst hx; clear hr) | (have hx := (sim_eq hr HNy.out).symm; subst hx; clear hr)) | (go_at_call 59; refine (absW _ _ ?_).mono ?_; (exact fits64 (by with_reducible assumption)); rintro e w' ⟨rfl, rfl⟩) | (refine wpList_fsim rfl _ _ _ _ _ rfl rfl .f64 _ _ rfl rfl (by first | with_reducible assumption | exact Sim.refl _ _) (by first | with_reducible assumption | exact Sim.refl _ _) ?_; intro r n hr hb))
    go_loopw [7, 43] (fun t k wr => ∃ (i q n : Nat), i ≤ 3 ∧ k = .int .i64 i ∧ t = .float .f64 q ∧ Sim .f64 q (tS (fop .quo .f64 (fconv .f32 x .f64 % 9223372036854775808) (fconv .f32 y .f64 % 9223372036854775808)) i) ∧ wr = w.drewN n) (fun _ k _ => 3 - (intOf k).toNat)
    case atStart => exact ⟨0, _, _, by omega, rfl, rfl, by show Sim _ _ (fop .quo .f64 (fconv .f32 x .f64 % 9223372036854775808) (fconv .f32 y .f64 % 9223372036854775808)); with_reducible assumption, rfl⟩
    case round =>
      obtain ⟨j, q, n, hi, rfl, rfl, hq, rfl⟩ := hrel
      by_cases hlt : j < 3
      · go_wp2_with (first | (go_at_call 62; refine (sqrtW _ _ _ (by with_reducible assumption)).mono ?_; rintro e w' ⟨r, n, rfl, rfl, hr, hb⟩) | (refine wpList_fsim rfl _ _ _ _ _ rfl rfl .f64 _ _ rfl rfl (by first | with_reducible assumption | exact Sim.refl _ _) (by first | with_reducible assumption | exact Sim.refl _ _) ?_; intro r n hr hb))
        go_roundw
        case rel => exact ⟨j + 1, _, _, by omega, by go_num, rfl, by show Sim _ _ (fop .quo .f64 (tS (fop .quo .f64 (fconv .f32 x .f64 % 9223372036854775808) (fconv .f32 y .f64 % 9223372036854775808)) j) (den (tS (fop .quo .f64 (fconv .f32 x .f64 % 9223372036854775808) (fconv .f32 y .f64 % 9223372036854775808)) j))); unfold den; with_reducible assumption, rfl⟩
        case measure => simp [intOf]; omega
      · obtain rfl : j = 3 := by omega
        go_wp2_with (refine wpList_fsim rfl _ _ _ _ _ rfl rfl .f64 _ _ rfl rfl (by first | with_reducible assumption | exact Sim.refl _ _) (by first | with_reducible assumption | exact Sim.refl _ _) ?_; intro r n hr hb)
        go_loopw [9, 10] (fun p k wr => ∃ (i q n : Nat), i ≤ 8 ∧ k = .float .f64 (ak i) ∧ p = .float .f64 q ∧ Sim .f64 q (pA (fop .mul .f64 (tS (fop .quo .f64 (fconv .f32 x .f64 % 9223372036854775808) (fconv .f32 y .f64 % 9223372036854775808)) 3) (tS (fop .quo .f64 (fconv .f32 x .f64 % 9223372036854775808) (fconv .f32 y .f64 % 9223372036854775808)) 3)) i) ∧ wr = w.drewN n) (fun _ k _ => akM k)
        case atStart => exact ⟨0, 0, _, by omega, rfl, rfl, Sim.refl _ _, rfl⟩
        case round =>
          obtain ⟨i, q2, n2, hi2, rfl, rfl, hq2, rfl⟩ := hrel
          by_cases hlt2 : i < 8
          · skip
            have hk := ak_ge i hlt2
            have HK := hid (ak_nan (i + 1) (by omega))
            have HD := hid (akM_dec i hlt2)
            go_wp2_with (refine wpList_fsim rfl _ _ _ _ _ rfl rfl .f64 _ _ rfl rfl (by first | with_reducible assumption | exact Sim.refl _ _) (by first | with_reducible assumption | exact Sim.refl _ _) ?_; intro r n hr hb)
            have hx := (sim_eq (show Sim .f64 r (ak (i + 1)) from hr) HK.out).symm
            subst hx
            go_roundw
            case rel => exact ⟨i + 1, _, _, by omega, rfl, rfl, by show Sim _ _ (fop .sub .f64 (fop .quo .f64 one (ak i)) (fop .mul .f64 (fop .mul .f64 (tS (fop .quo .f64 (fconv .f32 x .f64 % 9223372036854775808) (fconv .f32 y .f64 % 9223372036854775808)) 3) (tS (fop .quo .f64 (fconv .f32 x .f64 % 9223372036854775808) (fconv .f32 y .f64 % 9223372036854775808)) 3)) (pA (fop .mul .f64 (tS (fop .quo .f64 (fconv .f32 x .f64 % 9223372036854775808) (fconv .f32 y .f64 % 9223372036854775808)) 3) (tS (fop .quo .f64 (fconv .f32 x .f64 % 9223372036854775808) (fconv .f32 y .f64 % 9223372036854775808)) 3)) i))); with_reducible assumption, rfl⟩
            case measure => exact HD.out
          · obtain rfl : i = 8 := by omega
            have hk := ak_end
            go_wp2_with (first | (refine wpList_fcsim rfl _ _ _ rfl .f64 .f32 _ rfl (by first | with_reducible assumption | exact fits_neg (by with_reducible assumption)) u25 Try.underlying22 (by decide) (by first | with_reducible assumption | exact sim_neg (by with_reducible assumption) (fits_fop ..) (by with_reducible assumption)) ?_; intro r n hr hb) | (refine wpList_fsim rfl _ _ _ _ _ rfl rfl .f64 _ _ rfl rfl (by first | with_reducible assumption | exact Sim.refl _ _) (by first | with_reducible assumption | exact Sim.refl _ _) ?_; intro r n hr hb))
            go_ret
            exact ⟨_, _, rfl, rfl, by rw [E3.out]; exact hr (by rw [← E3.out]; exact HO.out), hb⟩
end TryWalk
end Go.Proofs.Ytlabbakmlanfgaa
