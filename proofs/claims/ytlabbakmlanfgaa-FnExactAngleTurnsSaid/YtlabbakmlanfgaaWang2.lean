/- The angle's walks. No condition. -/
import Derived.Test.YtlabbakmlanfgaaWang1
namespace Go.Proofs.Ytlabbakmlanfgaa
open Go.RowKit Flo Iee
set_option linter.unusedVariables false
namespace TryWalk
set_option maxHeartbeats 2000000 in
theorem spAng000 (x y : Nat) (w : World) (hfx : Fits .f32 x) (hfy : Fits .f32 y) (gx : FinW Ieee.double (fconv .f32 x .f64)) (gy : FinW Ieee.double (fconv .f32 y .f64)) (ho : (FloatKind.f64.format.order (fconv .f32 y .f64 % 9223372036854775808) (fconv .f32 x .f64 % 9223372036854775808) == some .gt) = false) (hsx : (FloatKind.f64.format.order (fconv .f32 x .f64) 0 == some .lt) = false) (hsy : (FloatKind.f64.format.order (fconv .f32 y .f64) 0 == some .lt) = false) (zx : Bool) (hzx : (FloatKind.f64.format.order (fconv .f32 x .f64) 0 == some .eq) = zx) (hzy : zx = true → (FloatKind.f64.format.order (fconv .f32 y .f64) 0 == some .eq) = false) : Calls Try.prog 86 #[.float .f64 (fconv .f32 y .f64), .float .f64 (fconv .f32 x .f64)] w (RetF .f64 (An3 false false false (fop .quo .f64 (fconv .f32 y .f64 % 9223372036854775808) (fconv .f32 x .f64 % 9223372036854775808))) w) := by
  have hneg := neg64
  have HNx := hid (nan_of_fin (k := .f64) gx)
  have HNy := hid (nan_of_fin (k := .f64) gy)
  have E3 := hid (show An3 false false false (fop .quo .f64 (fconv .f32 y .f64 % 9223372036854775808) (fconv .f32 x .f64 % 9223372036854775808)) = fop .quo .f64 (fop .mul .f64 eight (fop .mul .f64 (tS (fop .quo .f64 (fconv .f32 y .f64 % 9223372036854775808) (fconv .f32 x .f64 % 9223372036854775808)) 3) (pA (fop .mul .f64 (tS (fop .quo .f64 (fconv .f32 y .f64 % 9223372036854775808) (fconv .f32 x .f64 % 9223372036854775808)) 3) (tS (fop .quo .f64 (fconv .f32 y .f64 % 9223372036854775808) (fconv .f32 x .f64 % 9223372036854775808)) 3)) 8))) twoPi from rfl)
  have t0x := fin_neq gx
  have t0y := fin_neq gy
  have ffx := fits_fconv (k := .f64) hfx
  have ffy := fits_fconv (k := .f64) hfy
  clear gx gy
  cases zx
  · clear hzy
    go_enter Try.func86, Try.ntmps86
    go_wp2_with (first | (go_at_call 59; refine (absW _ _ ?_).mono ?_; (exact fits64 (by with_reducible assumption)); rintro e w' ⟨rfl, rfl⟩) | (refine wpList_fsim rfl .sub _ _ _ _ rfl rfl .f64 _ _ rfl rfl (Sim.refl _ _) (Sim.refl _ _) ?_; intro r n hr hb; have ht0 := order_congr hr (Sim.refl .f64 0)) | (refine wpList_fsim rfl _ _ _ _ _ rfl rfl .f64 _ _ rfl rfl (by first | with_reducible assumption | exact Sim.refl _ _) (by first | with_reducible assumption | exact Sim.refl _ _) ?_; intro r n hr hb))
    go_loopw [8, 9] (fun t k wr => ∃ (i q n : Nat), i ≤ 3 ∧ k = .int .i64 i ∧ t = .float .f64 q ∧ Sim .f64 q (tS (fop .quo .f64 (fconv .f32 y .f64 % 9223372036854775808) (fconv .f32 x .f64 % 9223372036854775808)) i) ∧ wr = w.drewN n) (fun _ k _ => 3 - (intOf k).toNat)
    case atStart => exact ⟨0, _, _, by omega, rfl, rfl, by show Sim _ _ (fop .quo .f64 (fconv .f32 y .f64 % 9223372036854775808) (fconv .f32 x .f64 % 9223372036854775808)); with_reducible assumption, rfl⟩
    case round =>
      obtain ⟨j, q, n, hi, rfl, rfl, hq, rfl⟩ := hrel
      by_cases hlt : j < 3
      · go_wp2_with (first | (go_at_call 62; refine (sqrtW _ _ _ (by with_reducible assumption)).mono ?_; rintro e w' ⟨r, n, rfl, rfl, hr, hb⟩) | (refine wpList_fsim rfl _ _ _ _ _ rfl rfl .f64 _ _ rfl rfl (by first | with_reducible assumption | exact Sim.refl _ _) (by first | with_reducible assumption | exact Sim.refl _ _) ?_; intro r n hr hb))
        go_roundw
        case rel => exact ⟨j + 1, _, _, by omega, by go_num, rfl, by show Sim _ _ (fop .quo .f64 (tS (fop .quo .f64 (fconv .f32 y .f64 % 9223372036854775808) (fconv .f32 x .f64 % 9223372036854775808)) j) (den (tS (fop .quo .f64 (fconv .f32 y .f64 % 9223372036854775808) (fconv .f32 x .f64 % 9223372036854775808)) j))); unfold den; with_reducible assumption, rfl⟩
        case measure => simp [intOf]; omega
      · obtain rfl : j = 3 := by omega
        go_wp2_with (refine wpList_fsim rfl _ _ _ _ _ rfl rfl .f64 _ _ rfl rfl (by first | with_reducible assumption | exact Sim.refl _ _) (by first | with_reducible assumption | exact Sim.refl _ _) ?_; intro r n hr hb)
        go_loopw [11, 12] (fun p k wr => ∃ (i q n : Nat) (c : Int), i ≤ 8 ∧ k = .int .i64 c ∧ Hid (c = 15 - 2 * (i : Int)) ∧ p = .float .f64 q ∧ Sim .f64 q (pA (fop .mul .f64 (tS (fop .quo .f64 (fconv .f32 y .f64 % 9223372036854775808) (fconv .f32 x .f64 % 9223372036854775808)) 3) (tS (fop .quo .f64 (fconv .f32 y .f64 % 9223372036854775808) (fconv .f32 x .f64 % 9223372036854775808)) 3)) i) ∧ wr = w.drewN n) (fun _ k _ => (intOf k + 1).toNat)
        case atStart => exact ⟨0, 0, _, 15, by omega, rfl, hid rfl, rfl, Sim.refl _ _, rfl⟩
        case round =>
          obtain ⟨i, q2, n2, c, hi2, rfl, hcc, rfl, hq2, rfl⟩ := hrel
          by_cases hlt2 : i < 8
          · skip
            have hc1 : 1 ≤ c := by have := hcc.out; omega
            have hc2 : c ≤ 15 := by have := hcc.out; omega
            have HI := hid (show floatOfInt .f64 c = ak i by rw [hcc.out]; exact ak_int i hlt2)
            go_wp2_with (refine wpList_fsim rfl _ _ _ _ _ rfl rfl .f64 _ _ rfl rfl (by first | with_reducible assumption | exact Sim.refl _ _) (by first | with_reducible assumption | exact Sim.refl _ _) ?_; intro r n hr hb)
            go_roundw
            case rel => exact ⟨i + 1, _, _, c - 2, by omega, rfl, hid (by have := hcc.out; omega), rfl, by show Sim _ _ (fop .sub .f64 (fop .quo .f64 one (ak i)) (fop .mul .f64 (fop .mul .f64 (tS (fop .quo .f64 (fconv .f32 y .f64 % 9223372036854775808) (fconv .f32 x .f64 % 9223372036854775808)) 3) (tS (fop .quo .f64 (fconv .f32 y .f64 % 9223372036854775808) (fconv .f32 x .f64 % 9223372036854775808)) 3)) (pA (fop .mul .f64 (tS (fop .quo .f64 (fconv .f32 y .f64 % 9223372036854775808) (fconv .f32 x .f64 % 9223372036854775808)) 3) (tS (fop .quo .f64 (fconv .f32 y .f64 % 9223372036854775808) (fconv .f32 x .f64 % 9223372036854775808)) 3)) i))); rw [← HI.out]; with_reducible assumption, rfl⟩
            case measure => simp [intOf]; omega
          · obtain rfl : i = 8 := by omega
            have hc1 : c < 1 := by have := hcc.out; omega
            have hc2 : -2 ≤ c := by have := hcc.out; omega
            go_wp2_with (refine wpList_fsim rfl _ _ _ _ _ rfl rfl .f64 _ _ rfl rfl (by first | with_reducible assumption | exact Sim.refl _ _) (by first | with_reducible assumption | exact Sim.refl _ _) ?_; intro r n hr hb)
            go_ret
            exact ⟨_, _, rfl, rfl, by rw [E3.out]; with_reducible assumption, hb⟩
  · have hzy2 := hzy rfl
    clear hzy
    go_enter Try.func86, Try.ntmps86
    go_wp2_with (first | (go_at_call 59; refine (absW _ _ ?_).mono ?_; (exact fits64 (by with_reducible assumption)); rintro e w' ⟨rfl, rfl⟩) | (refine wpList_fsim rfl .sub _ _ _ _ rfl rfl .f64 _ _ rfl rfl (Sim.refl _ _) (Sim.refl _ _) ?_; intro r n hr hb; have ht0 := order_congr hr (Sim.refl .f64 0)) | (refine wpList_fsim rfl _ _ _ _ _ rfl rfl .f64 _ _ rfl rfl (by first | with_reducible assumption | exact Sim.refl _ _) (by first | with_reducible assumption | exact Sim.refl _ _) ?_; intro r n hr hb))
    go_loopw [8, 9] (fun t k wr => ∃ (i q n : Nat), i ≤ 3 ∧ k = .int .i64 i ∧ t = .float .f64 q ∧ Sim .f64 q (tS (fop .quo .f64 (fconv .f32 y .f64 % 9223372036854775808) (fconv .f32 x .f64 % 9223372036854775808)) i) ∧ wr = w.drewN n) (fun _ k _ => 3 - (intOf k).toNat)
    case atStart => exact ⟨0, _, _, by omega, rfl, rfl, by show Sim _ _ (fop .quo .f64 (fconv .f32 y .f64 % 9223372036854775808) (fconv .f32 x .f64 % 9223372036854775808)); with_reducible assumption, rfl⟩
    case round =>
      obtain ⟨j, q, n, hi, rfl, rfl, hq, rfl⟩ := hrel
      by_cases hlt : j < 3
      · go_wp2_with (first | (go_at_call 62; refine (sqrtW _ _ _ (by with_reducible assumption)).mono ?_; rintro e w' ⟨r, n, rfl, rfl, hr, hb⟩) | (refine wpList_fsim rfl _ _ _ _ _ rfl rfl .f64 _ _ rfl rfl (by first | with_reducible assumption | exact Sim.refl _ _) (by first | with_reducible assumption | exact Sim.refl _ _) ?_; intro r n hr hb))
        go_roundw
        case rel => exact ⟨j + 1, _, _, by omega, by go_num, rfl, by show Sim _ _ (fop .quo .f64 (tS (fop .quo .f64 (fconv .f32 y .f64 % 9223372036854775808) (fconv .f32 x .f64 % 9223372036854775808)) j) (den (tS (fop .quo .f64 (fconv .f32 y .f64 % 9223372036854775808) (fconv .f32 x .f64 % 9223372036854775808)) j))); unfold den; with_reducible assumption, rfl⟩
        case measure => simp [intOf]; omega
      · obtain rfl : j = 3 := by omega
        go_wp2_with (refine wpList_fsim rfl _ _ _ _ _ rfl rfl .f64 _ _ rfl rfl (by first | with_reducible assumption | exact Sim.refl _ _) (by first | with_reducible assumption | exact Sim.refl _ _) ?_; intro r n hr hb)
        go_loopw [11, 12] (fun p k wr => ∃ (i q n : Nat) (c : Int), i ≤ 8 ∧ k = .int .i64 c ∧ Hid (c = 15 - 2 * (i : Int)) ∧ p = .float .f64 q ∧ Sim .f64 q (pA (fop .mul .f64 (tS (fop .quo .f64 (fconv .f32 y .f64 % 9223372036854775808) (fconv .f32 x .f64 % 9223372036854775808)) 3) (tS (fop .quo .f64 (fconv .f32 y .f64 % 9223372036854775808) (fconv .f32 x .f64 % 9223372036854775808)) 3)) i) ∧ wr = w.drewN n) (fun _ k _ => (intOf k + 1).toNat)
        case atStart => exact ⟨0, 0, _, 15, by omega, rfl, hid rfl, rfl, Sim.refl _ _, rfl⟩
        case round =>
          obtain ⟨i, q2, n2, c, hi2, rfl, hcc, rfl, hq2, rfl⟩ := hrel
          by_cases hlt2 : i < 8
          · skip
            have hc1 : 1 ≤ c := by have := hcc.out; omega
            have hc2 : c ≤ 15 := by have := hcc.out; omega
            have HI := hid (show floatOfInt .f64 c = ak i by rw [hcc.out]; exact ak_int i hlt2)
            go_wp2_with (refine wpList_fsim rfl _ _ _ _ _ rfl rfl .f64 _ _ rfl rfl (by first | with_reducible assumption | exact Sim.refl _ _) (by first | with_reducible assumption | exact Sim.refl _ _) ?_; intro r n hr hb)
            go_roundw
            case rel => exact ⟨i + 1, _, _, c - 2, by omega, rfl, hid (by have := hcc.out; omega), rfl, by show Sim _ _ (fop .sub .f64 (fop .quo .f64 one (ak i)) (fop .mul .f64 (fop .mul .f64 (tS (fop .quo .f64 (fconv .f32 y .f64 % 9223372036854775808) (fconv .f32 x .f64 % 9223372036854775808)) 3) (tS (fop .quo .f64 (fconv .f32 y .f64 % 9223372036854775808) (fconv .f32 x .f64 % 9223372036854775808)) 3)) (pA (fop .mul .f64 (tS (fop .quo .f64 (fconv .f32 y .f64 % 9223372036854775808) (fconv .f32 x .f64 % 9223372036854775808)) 3) (tS (fop .quo .f64 (fconv .f32 y .f64 % 9223372036854775808) (fconv .f32 x .f64 % 9223372036854775808)) 3)) i))); rw [← HI.out]; with_reducible assumption, rfl⟩
            case measure => simp [intOf]; omega
          · obtain rfl : i = 8 := by omega
            have hc1 : c < 1 := by have := hcc.out; omega
            have hc2 : -2 ≤ c := by have := hcc.out; omega
            go_wp2_with (refine wpList_fsim rfl _ _ _ _ _ rfl rfl .f64 _ _ rfl rfl (by first | with_reducible assumption | exact Sim.refl _ _) (by first | with_reducible assumption | exact Sim.refl _ _) ?_; intro r n hr hb)
            go_ret
            exact ⟨_, _, rfl, rfl, by rw [E3.out]; with_reducible assumption, hb⟩
set_option maxHeartbeats 2000000 in
theorem spAng001 (x y : Nat) (w : World) (hfx : Fits .f32 x) (hfy : Fits .f32 y) (gx : FinW Ieee.double (fconv .f32 x .f64)) (gy : FinW Ieee.double (fconv .f32 y .f64)) (ho : (FloatKind.f64.format.order (fconv .f32 y .f64 % 9223372036854775808) (fconv .f32 x .f64 % 9223372036854775808) == some .gt) = false) (hsx : (FloatKind.f64.format.order (fconv .f32 x .f64) 0 == some .lt) = false) (hsy : (FloatKind.f64.format.order (fconv .f32 y .f64) 0 == some .lt) = true) (zx : Bool) (hzx : (FloatKind.f64.format.order (fconv .f32 x .f64) 0 == some .eq) = zx) (hzy : zx = true → (FloatKind.f64.format.order (fconv .f32 y .f64) 0 == some .eq) = false) : Calls Try.prog 86 #[.float .f64 (fconv .f32 y .f64), .float .f64 (fconv .f32 x .f64)] w (RetF .f64 (An3 false false true (fop .quo .f64 (fconv .f32 y .f64 % 9223372036854775808) (fconv .f32 x .f64 % 9223372036854775808))) w) := by
  have hneg := neg64
  have HNx := hid (nan_of_fin (k := .f64) gx)
  have HNy := hid (nan_of_fin (k := .f64) gy)
  have E3 := hid (show An3 false false true (fop .quo .f64 (fconv .f32 y .f64 % 9223372036854775808) (fconv .f32 x .f64 % 9223372036854775808)) = fneg .f64 (fop .quo .f64 (fop .mul .f64 eight (fop .mul .f64 (tS (fop .quo .f64 (fconv .f32 y .f64 % 9223372036854775808) (fconv .f32 x .f64 % 9223372036854775808)) 3) (pA (fop .mul .f64 (tS (fop .quo .f64 (fconv .f32 y .f64 % 9223372036854775808) (fconv .f32 x .f64 % 9223372036854775808)) 3) (tS (fop .quo .f64 (fconv .f32 y .f64 % 9223372036854775808) (fconv .f32 x .f64 % 9223372036854775808)) 3)) 8))) twoPi) from rfl)
  have t0x := fin_neq gx
  have t0y := fin_neq gy
  have ffx := fits_fconv (k := .f64) hfx
  have ffy := fits_fconv (k := .f64) hfy
  clear gx gy
  cases zx
  · clear hzy
    go_enter Try.func86, Try.ntmps86
    go_wp2_with (first | (go_at_call 59; refine (absW _ _ ?_).mono ?_; (exact fits64 (by with_reducible assumption)); rintro e w' ⟨rfl, rfl⟩) | (refine wpList_fsim rfl .sub _ _ _ _ rfl rfl .f64 _ _ rfl rfl (Sim.refl _ _) (Sim.refl _ _) ?_; intro r n hr hb; have ht0 := order_congr hr (Sim.refl .f64 0)) | (refine wpList_fsim rfl _ _ _ _ _ rfl rfl .f64 _ _ rfl rfl (by first | with_reducible assumption | exact Sim.refl _ _) (by first | with_reducible assumption | exact Sim.refl _ _) ?_; intro r n hr hb))
    go_loopw [8, 9] (fun t k wr => ∃ (i q n : Nat), i ≤ 3 ∧ k = .int .i64 i ∧ t = .float .f64 q ∧ Sim .f64 q (tS (fop .quo .f64 (fconv .f32 y .f64 % 9223372036854775808) (fconv .f32 x .f64 % 9223372036854775808)) i) ∧ wr = w.drewN n) (fun _ k _ => 3 - (intOf k).toNat)
    case atStart => exact ⟨0, _, _, by omega, rfl, rfl, by show Sim _ _ (fop .quo .f64 (fconv .f32 y .f64 % 9223372036854775808) (fconv .f32 x .f64 % 9223372036854775808)); with_reducible assumption, rfl⟩
    case round =>
      obtain ⟨j, q, n, hi, rfl, rfl, hq, rfl⟩ := hrel
      by_cases hlt : j < 3
      · go_wp2_with (first | (go_at_call 62; refine (sqrtW _ _ _ (by with_reducible assumption)).mono ?_; rintro e w' ⟨r, n, rfl, rfl, hr, hb⟩) | (refine wpList_fsim rfl _ _ _ _ _ rfl rfl .f64 _ _ rfl rfl (by first | with_reducible assumption | exact Sim.refl _ _) (by first | with_reducible assumption | exact Sim.refl _ _) ?_; intro r n hr hb))
        go_roundw
        case rel => exact ⟨j + 1, _, _, by omega, by go_num, rfl, by show Sim _ _ (fop .quo .f64 (tS (fop .quo .f64 (fconv .f32 y .f64 % 9223372036854775808) (fconv .f32 x .f64 % 9223372036854775808)) j) (den (tS (fop .quo .f64 (fconv .f32 y .f64 % 9223372036854775808) (fconv .f32 x .f64 % 9223372036854775808)) j))); unfold den; with_reducible assumption, rfl⟩
        case measure => simp [intOf]; omega
      · obtain rfl : j = 3 := by omega
        go_wp2_with (refine wpList_fsim rfl _ _ _ _ _ rfl rfl .f64 _ _ rfl rfl (by first | with_reducible assumption | exact Sim.refl _ _) (by first | with_reducible assumption | exact Sim.refl _ _) ?_; intro r n hr hb)
        go_loopw [11, 12] (fun p k wr => ∃ (i q n : Nat) (c : Int), i ≤ 8 ∧ k = .int .i64 c ∧ Hid (c = 15 - 2 * (i : Int)) ∧ p = .float .f64 q ∧ Sim .f64 q (pA (fop .mul .f64 (tS (fop .quo .f64 (fconv .f32 y .f64 % 9223372036854775808) (fconv .f32 x .f64 % 9223372036854775808)) 3) (tS (fop .quo .f64 (fconv .f32 y .f64 % 9223372036854775808) (fconv .f32 x .f64 % 9223372036854775808)) 3)) i) ∧ wr = w.drewN n) (fun _ k _ => (intOf k + 1).toNat)
        case atStart => exact ⟨0, 0, _, 15, by omega, rfl, hid rfl, rfl, Sim.refl _ _, rfl⟩
        case round =>
          obtain ⟨i, q2, n2, c, hi2, rfl, hcc, rfl, hq2, rfl⟩ := hrel
          by_cases hlt2 : i < 8
          · skip
            have hc1 : 1 ≤ c := by have := hcc.out; omega
            have hc2 : c ≤ 15 := by have := hcc.out; omega
            have HI := hid (show floatOfInt .f64 c = ak i by rw [hcc.out]; exact ak_int i hlt2)
            go_wp2_with (refine wpList_fsim rfl _ _ _ _ _ rfl rfl .f64 _ _ rfl rfl (by first | with_reducible assumption | exact Sim.refl _ _) (by first | with_reducible assumption | exact Sim.refl _ _) ?_; intro r n hr hb)
            go_roundw
            case rel => exact ⟨i + 1, _, _, c - 2, by omega, rfl, hid (by have := hcc.out; omega), rfl, by show Sim _ _ (fop .sub .f64 (fop .quo .f64 one (ak i)) (fop .mul .f64 (fop .mul .f64 (tS (fop .quo .f64 (fconv .f32 y .f64 % 9223372036854775808) (fconv .f32 x .f64 % 9223372036854775808)) 3) (tS (fop .quo .f64 (fconv .f32 y .f64 % 9223372036854775808) (fconv .f32 x .f64 % 9223372036854775808)) 3)) (pA (fop .mul .f64 (tS (fop .quo .f64 (fconv .f32 y .f64 % 9223372036854775808) (fconv .f32 x .f64 % 9223372036854775808)) 3) (tS (fop .quo .f64 (fconv .f32 y .f64 % 9223372036854775808) (fconv .f32 x .f64 % 9223372036854775808)) 3)) i))); rw [← HI.out]; with_reducible assumption, rfl⟩
            case measure => simp [intOf]; omega
          · obtain rfl : i = 8 := by omega
            have hc1 : c < 1 := by have := hcc.out; omega
            have hc2 : -2 ≤ c := by have := hcc.out; omega
            go_wp2_with (refine wpList_fsim rfl _ _ _ _ _ rfl rfl .f64 _ _ rfl rfl (by first | with_reducible assumption | exact Sim.refl _ _) (by first | with_reducible assumption | exact Sim.refl _ _) ?_; intro r n hr hb)
            go_ret
            exact ⟨_, _, rfl, rfl, by rw [E3.out]; exact sim_neg hb (fits_fop ..) (by with_reducible assumption), fits_neg hb⟩
  · have hzy2 := hzy rfl
    clear hzy
    go_enter Try.func86, Try.ntmps86
    go_wp2_with (first | (go_at_call 59; refine (absW _ _ ?_).mono ?_; (exact fits64 (by with_reducible assumption)); rintro e w' ⟨rfl, rfl⟩) | (refine wpList_fsim rfl .sub _ _ _ _ rfl rfl .f64 _ _ rfl rfl (Sim.refl _ _) (Sim.refl _ _) ?_; intro r n hr hb; have ht0 := order_congr hr (Sim.refl .f64 0)) | (refine wpList_fsim rfl _ _ _ _ _ rfl rfl .f64 _ _ rfl rfl (by first | with_reducible assumption | exact Sim.refl _ _) (by first | with_reducible assumption | exact Sim.refl _ _) ?_; intro r n hr hb))
    go_loopw [8, 9] (fun t k wr => ∃ (i q n : Nat), i ≤ 3 ∧ k = .int .i64 i ∧ t = .float .f64 q ∧ Sim .f64 q (tS (fop .quo .f64 (fconv .f32 y .f64 % 9223372036854775808) (fconv .f32 x .f64 % 9223372036854775808)) i) ∧ wr = w.drewN n) (fun _ k _ => 3 - (intOf k).toNat)
    case atStart => exact ⟨0, _, _, by omega, rfl, rfl, by show Sim _ _ (fop .quo .f64 (fconv .f32 y .f64 % 9223372036854775808) (fconv .f32 x .f64 % 9223372036854775808)); with_reducible assumption, rfl⟩
    case round =>
      obtain ⟨j, q, n, hi, rfl, rfl, hq, rfl⟩ := hrel
      by_cases hlt : j < 3
      · go_wp2_with (first | (go_at_call 62; refine (sqrtW _ _ _ (by with_reducible assumption)).mono ?_; rintro e w' ⟨r, n, rfl, rfl, hr, hb⟩) | (refine wpList_fsim rfl _ _ _ _ _ rfl rfl .f64 _ _ rfl rfl (by first | with_reducible assumption | exact Sim.refl _ _) (by first | with_reducible assumption | exact Sim.refl _ _) ?_; intro r n hr hb))
        go_roundw
        case rel => exact ⟨j + 1, _, _, by omega, by go_num, rfl, by show Sim _ _ (fop .quo .f64 (tS (fop .quo .f64 (fconv .f32 y .f64 % 9223372036854775808) (fconv .f32 x .f64 % 9223372036854775808)) j) (den (tS (fop .quo .f64 (fconv .f32 y .f64 % 9223372036854775808) (fconv .f32 x .f64 % 9223372036854775808)) j))); unfold den; with_reducible assumption, rfl⟩
        case measure => simp [intOf]; omega
      · obtain rfl : j = 3 := by omega
        go_wp2_with (refine wpList_fsim rfl _ _ _ _ _ rfl rfl .f64 _ _ rfl rfl (by first | with_reducible assumption | exact Sim.refl _ _) (by first | with_reducible assumption | exact Sim.refl _ _) ?_; intro r n hr hb)
        go_loopw [11, 12] (fun p k wr => ∃ (i q n : Nat) (c : Int), i ≤ 8 ∧ k = .int .i64 c ∧ Hid (c = 15 - 2 * (i : Int)) ∧ p = .float .f64 q ∧ Sim .f64 q (pA (fop .mul .f64 (tS (fop .quo .f64 (fconv .f32 y .f64 % 9223372036854775808) (fconv .f32 x .f64 % 9223372036854775808)) 3) (tS (fop .quo .f64 (fconv .f32 y .f64 % 9223372036854775808) (fconv .f32 x .f64 % 9223372036854775808)) 3)) i) ∧ wr = w.drewN n) (fun _ k _ => (intOf k + 1).toNat)
        case atStart => exact ⟨0, 0, _, 15, by omega, rfl, hid rfl, rfl, Sim.refl _ _, rfl⟩
        case round =>
          obtain ⟨i, q2, n2, c, hi2, rfl, hcc, rfl, hq2, rfl⟩ := hrel
          by_cases hlt2 : i < 8
          · skip
            have hc1 : 1 ≤ c := by have := hcc.out; omega
            have hc2 : c ≤ 15 := by have := hcc.out; omega
            have HI := hid (show floatOfInt .f64 c = ak i by rw [hcc.out]; exact ak_int i hlt2)
            go_wp2_with (refine wpList_fsim rfl _ _ _ _ _ rfl rfl .f64 _ _ rfl rfl (by first | with_reducible assumption | exact Sim.refl _ _) (by first | with_reducible assumption | exact Sim.refl _ _) ?_; intro r n hr hb)
            go_roundw
            case rel => exact ⟨i + 1, _, _, c - 2, by omega, rfl, hid (by have := hcc.out; omega), rfl, by show Sim _ _ (fop .sub .f64 (fop .quo .f64 one (ak i)) (fop .mul .f64 (fop .mul .f64 (tS (fop .quo .f64 (fconv .f32 y .f64 % 9223372036854775808) (fconv .f32 x .f64 % 9223372036854775808)) 3) (tS (fop .quo .f64 (fconv .f32 y .f64 % 9223372036854775808) (fconv .f32 x .f64 % 9223372036854775808)) 3)) (pA (fop .mul .f64 (tS (fop .quo .f64 (fconv .f32 y .f64 % 9223372036854775808) (fconv .f32 x .f64 % 9223372036854775808)) 3) (tS (fop .quo .f64 (fconv .f32 y .f64 % 9223372036854775808) (fconv .f32 x .f64 % 9223372036854775808)) 3)) i))); rw [← HI.out]; with_reducible assumption, rfl⟩
            case measure => simp [intOf]; omega
          · obtain rfl : i = 8 := by omega
            have hc1 : c < 1 := by have := hcc.out; omega
            have hc2 : -2 ≤ c := by have := hcc.out; omega
            go_wp2_with (refine wpList_fsim rfl _ _ _ _ _ rfl rfl .f64 _ _ rfl rfl (by first | with_reducible assumption | exact Sim.refl _ _) (by first | with_reducible assumption | exact Sim.refl _ _) ?_; intro r n hr hb)
            go_ret
            exact ⟨_, _, rfl, rfl, by rw [E3.out]; exact sim_neg hb (fits_fop ..) (by with_reducible assumption), fits_neg hb⟩
set_option maxHeartbeats 2000000 in
theorem spAng010 (x y : Nat) (w : World) (hfx : Fits .f32 x) (hfy : Fits .f32 y) (gx : FinW Ieee.double (fconv .f32 x .f64)) (gy : FinW Ieee.double (fconv .f32 y .f64)) (ho : (FloatKind.f64.format.order (fconv .f32 y .f64 % 9223372036854775808) (fconv .f32 x .f64 % 9223372036854775808) == some .gt) = false) (hsx : (FloatKind.f64.format.order (fconv .f32 x .f64) 0 == some .lt) = true) (hsy : (FloatKind.f64.format.order (fconv .f32 y .f64) 0 == some .lt) = false) (zx : Bool) (hzx : (FloatKind.f64.format.order (fconv .f32 x .f64) 0 == some .eq) = zx) (hzy : zx = true → (FloatKind.f64.format.order (fconv .f32 y .f64) 0 == some .eq) = false) : Calls Try.prog 86 #[.float .f64 (fconv .f32 y .f64), .float .f64 (fconv .f32 x .f64)] w (RetF .f64 (An3 false true false (fop .quo .f64 (fconv .f32 y .f64 % 9223372036854775808) (fconv .f32 x .f64 % 9223372036854775808))) w) := by
  have hneg := neg64
  have HNx := hid (nan_of_fin (k := .f64) gx)
  have HNy := hid (nan_of_fin (k := .f64) gy)
  have E3 := hid (show An3 false true false (fop .quo .f64 (fconv .f32 y .f64 % 9223372036854775808) (fconv .f32 x .f64 % 9223372036854775808)) = fop .sub .f64 half (fop .quo .f64 (fop .mul .f64 eight (fop .mul .f64 (tS (fop .quo .f64 (fconv .f32 y .f64 % 9223372036854775808) (fconv .f32 x .f64 % 9223372036854775808)) 3) (pA (fop .mul .f64 (tS (fop .quo .f64 (fconv .f32 y .f64 % 9223372036854775808) (fconv .f32 x .f64 % 9223372036854775808)) 3) (tS (fop .quo .f64 (fconv .f32 y .f64 % 9223372036854775808) (fconv .f32 x .f64 % 9223372036854775808)) 3)) 8))) twoPi) from rfl)
  have t0x := fin_neq gx
  have t0y := fin_neq gy
  have ffx := fits_fconv (k := .f64) hfx
  have ffy := fits_fconv (k := .f64) hfy
  clear gx gy
  cases zx
  · clear hzy
    go_enter Try.func86, Try.ntmps86
    go_wp2_with (first | (go_at_call 59; refine (absW _ _ ?_).mono ?_; (exact fits64 (by with_reducible assumption)); rintro e w' ⟨rfl, rfl⟩) | (refine wpList_fsim rfl .sub _ _ _ _ rfl rfl .f64 _ _ rfl rfl (Sim.refl _ _) (Sim.refl _ _) ?_; intro r n hr hb; have ht0 := order_congr hr (Sim.refl .f64 0)) | (refine wpList_fsim rfl _ _ _ _ _ rfl rfl .f64 _ _ rfl rfl (by first | with_reducible assumption | exact Sim.refl _ _) (by first | with_reducible assumption | exact Sim.refl _ _) ?_; intro r n hr hb))
    go_loopw [8, 9] (fun t k wr => ∃ (i q n : Nat), i ≤ 3 ∧ k = .int .i64 i ∧ t = .float .f64 q ∧ Sim .f64 q (tS (fop .quo .f64 (fconv .f32 y .f64 % 9223372036854775808) (fconv .f32 x .f64 % 9223372036854775808)) i) ∧ wr = w.drewN n) (fun _ k _ => 3 - (intOf k).toNat)
    case atStart => exact ⟨0, _, _, by omega, rfl, rfl, by show Sim _ _ (fop .quo .f64 (fconv .f32 y .f64 % 9223372036854775808) (fconv .f32 x .f64 % 9223372036854775808)); with_reducible assumption, rfl⟩
    case round =>
      obtain ⟨j, q, n, hi, rfl, rfl, hq, rfl⟩ := hrel
      by_cases hlt : j < 3
      · go_wp2_with (first | (go_at_call 62; refine (sqrtW _ _ _ (by with_reducible assumption)).mono ?_; rintro e w' ⟨r, n, rfl, rfl, hr, hb⟩) | (refine wpList_fsim rfl _ _ _ _ _ rfl rfl .f64 _ _ rfl rfl (by first | with_reducible assumption | exact Sim.refl _ _) (by first | with_reducible assumption | exact Sim.refl _ _) ?_; intro r n hr hb))
        go_roundw
        case rel => exact ⟨j + 1, _, _, by omega, by go_num, rfl, by show Sim _ _ (fop .quo .f64 (tS (fop .quo .f64 (fconv .f32 y .f64 % 9223372036854775808) (fconv .f32 x .f64 % 9223372036854775808)) j) (den (tS (fop .quo .f64 (fconv .f32 y .f64 % 9223372036854775808) (fconv .f32 x .f64 % 9223372036854775808)) j))); unfold den; with_reducible assumption, rfl⟩
        case measure => simp [intOf]; omega
      · obtain rfl : j = 3 := by omega
        go_wp2_with (refine wpList_fsim rfl _ _ _ _ _ rfl rfl .f64 _ _ rfl rfl (by first | with_reducible assumption | exact Sim.refl _ _) (by first | with_reducible assumption | exact Sim.refl _ _) ?_; intro r n hr hb)
        go_loopw [11, 12] (fun p k wr => ∃ (i q n : Nat) (c : Int), i ≤ 8 ∧ k = .int .i64 c ∧ Hid (c = 15 - 2 * (i : Int)) ∧ p = .float .f64 q ∧ Sim .f64 q (pA (fop .mul .f64 (tS (fop .quo .f64 (fconv .f32 y .f64 % 9223372036854775808) (fconv .f32 x .f64 % 9223372036854775808)) 3) (tS (fop .quo .f64 (fconv .f32 y .f64 % 9223372036854775808) (fconv .f32 x .f64 % 9223372036854775808)) 3)) i) ∧ wr = w.drewN n) (fun _ k _ => (intOf k + 1).toNat)
        case atStart => exact ⟨0, 0, _, 15, by omega, rfl, hid rfl, rfl, Sim.refl _ _, rfl⟩
        case round =>
          obtain ⟨i, q2, n2, c, hi2, rfl, hcc, rfl, hq2, rfl⟩ := hrel
          by_cases hlt2 : i < 8
          · skip
            have hc1 : 1 ≤ c := by have := hcc.out; omega
            have hc2 : c ≤ 15 := by have := hcc.out; omega
            have HI := hid (show floatOfInt .f64 c = ak i by rw [hcc.out]; exact ak_int i hlt2)
            go_wp2_with (refine wpList_fsim rfl _ _ _ _ _ rfl rfl .f64 _ _ rfl rfl (by first | with_reducible assumption | exact Sim.refl _ _) (by first | with_reducible assumption | exact Sim.refl _ _) ?_; intro r n hr hb)
            go_roundw
            case rel => exact ⟨i + 1, _, _, c - 2, by omega, rfl, hid (by have := hcc.out; omega), rfl, by show Sim _ _ (fop .sub .f64 (fop .quo .f64 one (ak i)) (fop .mul .f64 (fop .mul .f64 (tS (fop .quo .f64 (fconv .f32 y .f64 % 9223372036854775808) (fconv .f32 x .f64 % 9223372036854775808)) 3) (tS (fop .quo .f64 (fconv .f32 y .f64 % 9223372036854775808) (fconv .f32 x .f64 % 9223372036854775808)) 3)) (pA (fop .mul .f64 (tS (fop .quo .f64 (fconv .f32 y .f64 % 9223372036854775808) (fconv .f32 x .f64 % 9223372036854775808)) 3) (tS (fop .quo .f64 (fconv .f32 y .f64 % 9223372036854775808) (fconv .f32 x .f64 % 9223372036854775808)) 3)) i))); rw [← HI.out]; with_reducible assumption, rfl⟩
            case measure => simp [intOf]; omega
          · obtain rfl : i = 8 := by omega
            have hc1 : c < 1 := by have := hcc.out; omega
            have hc2 : -2 ≤ c := by have := hcc.out; omega
            go_wp2_with (refine wpList_fsim rfl _ _ _ _ _ rfl rfl .f64 _ _ rfl rfl (by first | with_reducible assumption | exact Sim.refl _ _) (by first | with_reducible assumption | exact Sim.refl _ _) ?_; intro r n hr hb)
            go_ret
            exact ⟨_, _, rfl, rfl, by rw [E3.out]; with_reducible assumption, hb⟩
  · have hzy2 := hzy rfl
    clear hzy
    go_enter Try.func86, Try.ntmps86
    go_wp2_with (first | (go_at_call 59; refine (absW _ _ ?_).mono ?_; (exact fits64 (by with_reducible assumption)); rintro e w' ⟨rfl, rfl⟩) | (refine wpList_fsim rfl .sub _ _ _ _ rfl rfl .f64 _ _ rfl rfl (Sim.refl _ _) (Sim.refl _ _) ?_; intro r n hr hb; have ht0 := order_congr hr (Sim.refl .f64 0)) | (refine wpList_fsim rfl _ _ _ _ _ rfl rfl .f64 _ _ rfl rfl (by first | with_reducible assumption | exact Sim.refl _ _) (by first | with_reducible assumption | exact Sim.refl _ _) ?_; intro r n hr hb))
    go_loopw [8, 9] (fun t k wr => ∃ (i q n : Nat), i ≤ 3 ∧ k = .int .i64 i ∧ t = .float .f64 q ∧ Sim .f64 q (tS (fop .quo .f64 (fconv .f32 y .f64 % 9223372036854775808) (fconv .f32 x .f64 % 9223372036854775808)) i) ∧ wr = w.drewN n) (fun _ k _ => 3 - (intOf k).toNat)
    case atStart => exact ⟨0, _, _, by omega, rfl, rfl, by show Sim _ _ (fop .quo .f64 (fconv .f32 y .f64 % 9223372036854775808) (fconv .f32 x .f64 % 9223372036854775808)); with_reducible assumption, rfl⟩
    case round =>
      obtain ⟨j, q, n, hi, rfl, rfl, hq, rfl⟩ := hrel
      by_cases hlt : j < 3
      · go_wp2_with (first | (go_at_call 62; refine (sqrtW _ _ _ (by with_reducible assumption)).mono ?_; rintro e w' ⟨r, n, rfl, rfl, hr, hb⟩) | (refine wpList_fsim rfl _ _ _ _ _ rfl rfl .f64 _ _ rfl rfl (by first | with_reducible assumption | exact Sim.refl _ _) (by first | with_reducible assumption | exact Sim.refl _ _) ?_; intro r n hr hb))
        go_roundw
        case rel => exact ⟨j + 1, _, _, by omega, by go_num, rfl, by show Sim _ _ (fop .quo .f64 (tS (fop .quo .f64 (fconv .f32 y .f64 % 9223372036854775808) (fconv .f32 x .f64 % 9223372036854775808)) j) (den (tS (fop .quo .f64 (fconv .f32 y .f64 % 9223372036854775808) (fconv .f32 x .f64 % 9223372036854775808)) j))); unfold den; with_reducible assumption, rfl⟩
        case measure => simp [intOf]; omega
      · obtain rfl : j = 3 := by omega
        go_wp2_with (refine wpList_fsim rfl _ _ _ _ _ rfl rfl .f64 _ _ rfl rfl (by first | with_reducible assumption | exact Sim.refl _ _) (by first | with_reducible assumption | exact Sim.refl _ _) ?_; intro r n hr hb)
        go_loopw [11, 12] (fun p k wr => ∃ (i q n : Nat) (c : Int), i ≤ 8 ∧ k = .int .i64 c ∧ Hid (c = 15 - 2 * (i : Int)) ∧ p = .float .f64 q ∧ Sim .f64 q (pA (fop .mul .f64 (tS (fop .quo .f64 (fconv .f32 y .f64 % 9223372036854775808) (fconv .f32 x .f64 % 9223372036854775808)) 3) (tS (fop .quo .f64 (fconv .f32 y .f64 % 9223372036854775808) (fconv .f32 x .f64 % 9223372036854775808)) 3)) i) ∧ wr = w.drewN n) (fun _ k _ => (intOf k + 1).toNat)
        case atStart => exact ⟨0, 0, _, 15, by omega, rfl, hid rfl, rfl, Sim.refl _ _, rfl⟩
        case round =>
          obtain ⟨i, q2, n2, c, hi2, rfl, hcc, rfl, hq2, rfl⟩ := hrel
          by_cases hlt2 : i < 8
          · skip
            have hc1 : 1 ≤ c := by have := hcc.out; omega
            have hc2 : c ≤ 15 := by have := hcc.out; omega
            have HI := hid (show floatOfInt .f64 c = ak i by rw [hcc.out]; exact ak_int i hlt2)
            go_wp2_with (refine wpList_fsim rfl _ _ _ _ _ rfl rfl .f64 _ _ rfl rfl (by first | with_reducible assumption | exact Sim.refl _ _) (by first | with_reducible assumption | exact Sim.refl _ _) ?_; intro r n hr hb)
            go_roundw
            case rel => exact ⟨i + 1, _, _, c - 2, by omega, rfl, hid (by have := hcc.out; omega), rfl, by show Sim _ _ (fop .sub .f64 (fop .quo .f64 one (ak i)) (fop .mul .f64 (fop .mul .f64 (tS (fop .quo .f64 (fconv .f32 y .f64 % 9223372036854775808) (fconv .f32 x .f64 % 9223372036854775808)) 3) (tS (fop .quo .f64 (fconv .f32 y .f64 % 9223372036854775808) (fconv .f32 x .f64 % 9223372036854775808)) 3)) (pA (fop .mul .f64 (tS (fop .quo .f64 (fconv .f32 y .f64 % 9223372036854775808) (fconv .f32 x .f64 % 9223372036854775808)) 3) (tS (fop .quo .f64 (fconv .f32 y .f64 % 9223372036854775808) (fconv .f32 x .f64 % 9223372036854775808)) 3)) i))); rw [← HI.out]; with_reducible assumption, rfl⟩
            case measure => simp [intOf]; omega
          · obtain rfl : i = 8 := by omega
            have hc1 : c < 1 := by have := hcc.out; omega
            have hc2 : -2 ≤ c := by have := hcc.out; omega
            go_wp2_with (refine wpList_fsim rfl _ _ _ _ _ rfl rfl .f64 _ _ rfl rfl (by first | with_reducible assumption | exact Sim.refl _ _) (by first | with_reducible assumption | exact Sim.refl _ _) ?_; intro r n hr hb)
            go_ret
            exact ⟨_, _, rfl, rfl, by rw [E3.out]; with_reducible assumption, hb⟩
set_option maxHeartbeats 2000000 in
theorem spAng011 (x y : Nat) (w : World) (hfx : Fits .f32 x) (hfy : Fits .f32 y) (gx : FinW Ieee.double (fconv .f32 x .f64)) (gy : FinW Ieee.double (fconv .f32 y .f64)) (ho : (FloatKind.f64.format.order (fconv .f32 y .f64 % 9223372036854775808) (fconv .f32 x .f64 % 9223372036854775808) == some .gt) = false) (hsx : (FloatKind.f64.format.order (fconv .f32 x .f64) 0 == some .lt) = true) (hsy : (FloatKind.f64.format.order (fconv .f32 y .f64) 0 == some .lt) = true) (zx : Bool) (hzx : (FloatKind.f64.format.order (fconv .f32 x .f64) 0 == some .eq) = zx) (hzy : zx = true → (FloatKind.f64.format.order (fconv .f32 y .f64) 0 == some .eq) = false) : Calls Try.prog 86 #[.float .f64 (fconv .f32 y .f64), .float .f64 (fconv .f32 x .f64)] w (RetF .f64 (An3 false true true (fop .quo .f64 (fconv .f32 y .f64 % 9223372036854775808) (fconv .f32 x .f64 % 9223372036854775808))) w) := by
  have hneg := neg64
  have HNx := hid (nan_of_fin (k := .f64) gx)
  have HNy := hid (nan_of_fin (k := .f64) gy)
  have E3 := hid (show An3 false true true (fop .quo .f64 (fconv .f32 y .f64 % 9223372036854775808) (fconv .f32 x .f64 % 9223372036854775808)) = fneg .f64 (fop .sub .f64 half (fop .quo .f64 (fop .mul .f64 eight (fop .mul .f64 (tS (fop .quo .f64 (fconv .f32 y .f64 % 9223372036854775808) (fconv .f32 x .f64 % 9223372036854775808)) 3) (pA (fop .mul .f64 (tS (fop .quo .f64 (fconv .f32 y .f64 % 9223372036854775808) (fconv .f32 x .f64 % 9223372036854775808)) 3) (tS (fop .quo .f64 (fconv .f32 y .f64 % 9223372036854775808) (fconv .f32 x .f64 % 9223372036854775808)) 3)) 8))) twoPi)) from rfl)
  have t0x := fin_neq gx
  have t0y := fin_neq gy
  have ffx := fits_fconv (k := .f64) hfx
  have ffy := fits_fconv (k := .f64) hfy
  clear gx gy
  cases zx
  · clear hzy
    go_enter Try.func86, Try.ntmps86
    go_wp2_with (first | (go_at_call 59; refine (absW _ _ ?_).mono ?_; (exact fits64 (by with_reducible assumption)); rintro e w' ⟨rfl, rfl⟩) | (refine wpList_fsim rfl .sub _ _ _ _ rfl rfl .f64 _ _ rfl rfl (Sim.refl _ _) (Sim.refl _ _) ?_; intro r n hr hb; have ht0 := order_congr hr (Sim.refl .f64 0)) | (refine wpList_fsim rfl _ _ _ _ _ rfl rfl .f64 _ _ rfl rfl (by first | with_reducible assumption | exact Sim.refl _ _) (by first | with_reducible assumption | exact Sim.refl _ _) ?_; intro r n hr hb))
    go_loopw [8, 9] (fun t k wr => ∃ (i q n : Nat), i ≤ 3 ∧ k = .int .i64 i ∧ t = .float .f64 q ∧ Sim .f64 q (tS (fop .quo .f64 (fconv .f32 y .f64 % 9223372036854775808) (fconv .f32 x .f64 % 9223372036854775808)) i) ∧ wr = w.drewN n) (fun _ k _ => 3 - (intOf k).toNat)
    case atStart => exact ⟨0, _, _, by omega, rfl, rfl, by show Sim _ _ (fop .quo .f64 (fconv .f32 y .f64 % 9223372036854775808) (fconv .f32 x .f64 % 9223372036854775808)); with_reducible assumption, rfl⟩
    case round =>
      obtain ⟨j, q, n, hi, rfl, rfl, hq, rfl⟩ := hrel
      by_cases hlt : j < 3
      · go_wp2_with (first | (go_at_call 62; refine (sqrtW _ _ _ (by with_reducible assumption)).mono ?_; rintro e w' ⟨r, n, rfl, rfl, hr, hb⟩) | (refine wpList_fsim rfl _ _ _ _ _ rfl rfl .f64 _ _ rfl rfl (by first | with_reducible assumption | exact Sim.refl _ _) (by first | with_reducible assumption | exact Sim.refl _ _) ?_; intro r n hr hb))
        go_roundw
        case rel => exact ⟨j + 1, _, _, by omega, by go_num, rfl, by show Sim _ _ (fop .quo .f64 (tS (fop .quo .f64 (fconv .f32 y .f64 % 9223372036854775808) (fconv .f32 x .f64 % 9223372036854775808)) j) (den (tS (fop .quo .f64 (fconv .f32 y .f64 % 9223372036854775808) (fconv .f32 x .f64 % 9223372036854775808)) j))); unfold den; with_reducible assumption, rfl⟩
        case measure => simp [intOf]; omega
      · obtain rfl : j = 3 := by omega
        go_wp2_with (refine wpList_fsim rfl _ _ _ _ _ rfl rfl .f64 _ _ rfl rfl (by first | with_reducible assumption | exact Sim.refl _ _) (by first | with_reducible assumption | exact Sim.refl _ _) ?_; intro r n hr hb)
        go_loopw [11, 12] (fun p k wr => ∃ (i q n : Nat) (c : Int), i ≤ 8 ∧ k = .int .i64 c ∧ Hid (c = 15 - 2 * (i : Int)) ∧ p = .float .f64 q ∧ Sim .f64 q (pA (fop .mul .f64 (tS (fop .quo .f64 (fconv .f32 y .f64 % 9223372036854775808) (fconv .f32 x .f64 % 9223372036854775808)) 3) (tS (fop .quo .f64 (fconv .f32 y .f64 % 9223372036854775808) (fconv .f32 x .f64 % 9223372036854775808)) 3)) i) ∧ wr = w.drewN n) (fun _ k _ => (intOf k + 1).toNat)
        case atStart => exact ⟨0, 0, _, 15, by omega, rfl, hid rfl, rfl, Sim.refl _ _, rfl⟩
        case round =>
          obtain ⟨i, q2, n2, c, hi2, rfl, hcc, rfl, hq2, rfl⟩ := hrel
          by_cases hlt2 : i < 8
          · skip
            have hc1 : 1 ≤ c := by have := hcc.out; omega
            have hc2 : c ≤ 15 := by have := hcc.out; omega
            have HI := hid (show floatOfInt .f64 c = ak i by rw [hcc.out]; exact ak_int i hlt2)
            go_wp2_with (refine wpList_fsim rfl _ _ _ _ _ rfl rfl .f64 _ _ rfl rfl (by first | with_reducible assumption | exact Sim.refl _ _) (by first | with_reducible assumption | exact Sim.refl _ _) ?_; intro r n hr hb)
            go_roundw
            case rel => exact ⟨i + 1, _, _, c - 2, by omega, rfl, hid (by have := hcc.out; omega), rfl, by show Sim _ _ (fop .sub .f64 (fop .quo .f64 one (ak i)) (fop .mul .f64 (fop .mul .f64 (tS (fop .quo .f64 (fconv .f32 y .f64 % 9223372036854775808) (fconv .f32 x .f64 % 9223372036854775808)) 3) (tS (fop .quo .f64 (fconv .f32 y .f64 % 9223372036854775808) (fconv .f32 x .f64 % 9223372036854775808)) 3)) (pA (fop .mul .f64 (tS (fop .quo .f64 (fconv .f32 y .f64 % 9223372036854775808) (fconv .f32 x .f64 % 9223372036854775808)) 3) (tS (fop .quo .f64 (fconv .f32 y .f64 % 9223372036854775808) (fconv .f32 x .f64 % 9223372036854775808)) 3)) i))); rw [← HI.out]; with_reducible assumption, rfl⟩
            case measure => simp [intOf]; omega
          · obtain rfl : i = 8 := by omega
            have hc1 : c < 1 := by have := hcc.out; omega
            have hc2 : -2 ≤ c := by have := hcc.out; omega
            go_wp2_with (refine wpList_fsim rfl _ _ _ _ _ rfl rfl .f64 _ _ rfl rfl (by first | with_reducible assumption | exact Sim.refl _ _) (by first | with_reducible assumption | exact Sim.refl _ _) ?_; intro r n hr hb)
            go_ret
            exact ⟨_, _, rfl, rfl, by rw [E3.out]; exact sim_neg hb (fits_fop ..) (by with_reducible assumption), fits_neg hb⟩
  · have hzy2 := hzy rfl
    clear hzy
    go_enter Try.func86, Try.ntmps86
    go_wp2_with (first | (go_at_call 59; refine (absW _ _ ?_).mono ?_; (exact fits64 (by with_reducible assumption)); rintro e w' ⟨rfl, rfl⟩) | (refine wpList_fsim rfl .sub _ _ _ _ rfl rfl .f64 _ _ rfl rfl (Sim.refl _ _) (Sim.refl _ _) ?_; intro r n hr hb; have ht0 := order_congr hr (Sim.refl .f64 0)) | (refine wpList_fsim rfl _ _ _ _ _ rfl rfl .f64 _ _ rfl rfl (by first | with_reducible assumption | exact Sim.refl _ _) (by first | with_reducible assumption | exact Sim.refl _ _) ?_; intro r n hr hb))
    go_loopw [8, 9] (fun t k wr => ∃ (i q n : Nat), i ≤ 3 ∧ k = .int .i64 i ∧ t = .float .f64 q ∧ Sim .f64 q (tS (fop .quo .f64 (fconv .f32 y .f64 % 9223372036854775808) (fconv .f32 x .f64 % 9223372036854775808)) i) ∧ wr = w.drewN n) (fun _ k _ => 3 - (intOf k).toNat)
    case atStart => exact ⟨0, _, _, by omega, rfl, rfl, by show Sim _ _ (fop .quo .f64 (fconv .f32 y .f64 % 9223372036854775808) (fconv .f32 x .f64 % 9223372036854775808)); with_reducible assumption, rfl⟩
    case round =>
      obtain ⟨j, q, n, hi, rfl, rfl, hq, rfl⟩ := hrel
      by_cases hlt : j < 3
      · go_wp2_with (first | (go_at_call 62; refine (sqrtW _ _ _ (by with_reducible assumption)).mono ?_; rintro e w' ⟨r, n, rfl, rfl, hr, hb⟩) | (refine wpList_fsim rfl _ _ _ _ _ rfl rfl .f64 _ _ rfl rfl (by first | with_reducible assumption | exact Sim.refl _ _) (by first | with_reducible assumption | exact Sim.refl _ _) ?_; intro r n hr hb))
        go_roundw
        case rel => exact ⟨j + 1, _, _, by omega, by go_num, rfl, by show Sim _ _ (fop .quo .f64 (tS (fop .quo .f64 (fconv .f32 y .f64 % 9223372036854775808) (fconv .f32 x .f64 % 9223372036854775808)) j) (den (tS (fop .quo .f64 (fconv .f32 y .f64 % 9223372036854775808) (fconv .f32 x .f64 % 9223372036854775808)) j))); unfold den; with_reducible assumption, rfl⟩
        case measure => simp [intOf]; omega
      · obtain rfl : j = 3 := by omega
        go_wp2_with (refine wpList_fsim rfl _ _ _ _ _ rfl rfl .f64 _ _ rfl rfl (by first | with_reducible assumption | exact Sim.refl _ _) (by first | with_reducible assumption | exact Sim.refl _ _) ?_; intro r n hr hb)
        go_loopw [11, 12] (fun p k wr => ∃ (i q n : Nat) (c : Int), i ≤ 8 ∧ k = .int .i64 c ∧ Hid (c = 15 - 2 * (i : Int)) ∧ p = .float .f64 q ∧ Sim .f64 q (pA (fop .mul .f64 (tS (fop .quo .f64 (fconv .f32 y .f64 % 9223372036854775808) (fconv .f32 x .f64 % 9223372036854775808)) 3) (tS (fop .quo .f64 (fconv .f32 y .f64 % 9223372036854775808) (fconv .f32 x .f64 % 9223372036854775808)) 3)) i) ∧ wr = w.drewN n) (fun _ k _ => (intOf k + 1).toNat)
        case atStart => exact ⟨0, 0, _, 15, by omega, rfl, hid rfl, rfl, Sim.refl _ _, rfl⟩
        case round =>
          obtain ⟨i, q2, n2, c, hi2, rfl, hcc, rfl, hq2, rfl⟩ := hrel
          by_cases hlt2 : i < 8
          · skip
            have hc1 : 1 ≤ c := by have := hcc.out; omega
            have hc2 : c ≤ 15 := by have := hcc.out; omega
            have HI := hid (show floatOfInt .f64 c = ak i by rw [hcc.out]; exact ak_int i hlt2)
            go_wp2_with (refine wpList_fsim rfl _ _ _ _ _ rfl rfl .f64 _ _ rfl rfl (by first | with_reducible assumption | exact Sim.refl _ _) (by first | with_reducible assumption | exact Sim.refl _ _) ?_; intro r n hr hb)
            go_roundw
            case rel => exact ⟨i + 1, _, _, c - 2, by omega, rfl, hid (by have := hcc.out; omega), rfl, by show Sim _ _ (fop .sub .f64 (fop .quo .f64 one (ak i)) (fop .mul .f64 (fop .mul .f64 (tS (fop .quo .f64 (fconv .f32 y .f64 % 9223372036854775808) (fconv .f32 x .f64 % 9223372036854775808)) 3) (tS (fop .quo .f64 (fconv .f32 y .f64 % 9223372036854775808) (fconv .f32 x .f64 % 9223372036854775808)) 3)) (pA (fop .mul .f64 (tS (fop .quo .f64 (fconv .f32 y .f64 % 9223372036854775808) (fconv .f32 x .f64 % 9223372036854775808)) 3) (tS (fop .quo .f64 (fconv .f32 y .f64 % 9223372036854775808) (fconv .f32 x .f64 % 9223372036854775808)) 3)) i))); rw [← HI.out]; with_reducible assumption, rfl⟩
            case measure => simp [intOf]; omega
          · obtain rfl : i = 8 := by omega
            have hc1 : c < 1 := by have := hcc.out; omega
            have hc2 : -2 ≤ c := by have := hcc.out; omega
            go_wp2_with (refine wpList_fsim rfl _ _ _ _ _ rfl rfl .f64 _ _ rfl rfl (by first | with_reducible assumption | exact Sim.refl _ _) (by first | with_reducible assumption | exact Sim.refl _ _) ?_; intro r n hr hb)
            go_ret
            exact ⟨_, _, rfl, rfl, by rw [E3.out]; exact sim_neg hb (fits_fop ..) (by with_reducible assumption), fits_neg hb⟩
set_option maxHeartbeats 2000000 in
theorem spAng100 (x y : Nat) (w : World) (hfx : Fits .f32 x) (hfy : Fits .f32 y) (gx : FinW Ieee.double (fconv .f32 x .f64)) (gy : FinW Ieee.double (fconv .f32 y .f64)) (ho : (FloatKind.f64.format.order (fconv .f32 y .f64 % 9223372036854775808) (fconv .f32 x .f64 % 9223372036854775808) == some .gt) = true) (hsx : (FloatKind.f64.format.order (fconv .f32 x .f64) 0 == some .lt) = false) (hsy : (FloatKind.f64.format.order (fconv .f32 y .f64) 0 == some .lt) = false) (zx : Bool) (hzx : (FloatKind.f64.format.order (fconv .f32 x .f64) 0 == some .eq) = zx) (hzy : zx = true → (FloatKind.f64.format.order (fconv .f32 y .f64) 0 == some .eq) = false) : Calls Try.prog 86 #[.float .f64 (fconv .f32 y .f64), .float .f64 (fconv .f32 x .f64)] w (RetF .f64 (An3 true false false (fop .quo .f64 (fconv .f32 x .f64 % 9223372036854775808) (fconv .f32 y .f64 % 9223372036854775808))) w) := by
  have hneg := neg64
  have HNx := hid (nan_of_fin (k := .f64) gx)
  have HNy := hid (nan_of_fin (k := .f64) gy)
  have E3 := hid (show An3 true false false (fop .quo .f64 (fconv .f32 x .f64 % 9223372036854775808) (fconv .f32 y .f64 % 9223372036854775808)) = fop .sub .f64 quarter (fop .quo .f64 (fop .mul .f64 eight (fop .mul .f64 (tS (fop .quo .f64 (fconv .f32 x .f64 % 9223372036854775808) (fconv .f32 y .f64 % 9223372036854775808)) 3) (pA (fop .mul .f64 (tS (fop .quo .f64 (fconv .f32 x .f64 % 9223372036854775808) (fconv .f32 y .f64 % 9223372036854775808)) 3) (tS (fop .quo .f64 (fconv .f32 x .f64 % 9223372036854775808) (fconv .f32 y .f64 % 9223372036854775808)) 3)) 8))) twoPi) from rfl)
  have t0x := fin_neq gx
  have t0y := fin_neq gy
  have ffx := fits_fconv (k := .f64) hfx
  have ffy := fits_fconv (k := .f64) hfy
  clear gx gy
  cases zx
  · clear hzy
    go_enter Try.func86, Try.ntmps86
    go_wp2_with (first | (go_at_call 59; refine (absW _ _ ?_).mono ?_; (exact fits64 (by with_reducible assumption)); rintro e w' ⟨rfl, rfl⟩) | (refine wpList_fsim rfl .sub _ _ _ _ rfl rfl .f64 _ _ rfl rfl (Sim.refl _ _) (Sim.refl _ _) ?_; intro r n hr hb; have ht0 := order_congr hr (Sim.refl .f64 0)) | (refine wpList_fsim rfl _ _ _ _ _ rfl rfl .f64 _ _ rfl rfl (by first | with_reducible assumption | exact Sim.refl _ _) (by first | with_reducible assumption | exact Sim.refl _ _) ?_; intro r n hr hb))
    go_loopw [8, 9] (fun t k wr => ∃ (i q n : Nat), i ≤ 3 ∧ k = .int .i64 i ∧ t = .float .f64 q ∧ Sim .f64 q (tS (fop .quo .f64 (fconv .f32 x .f64 % 9223372036854775808) (fconv .f32 y .f64 % 9223372036854775808)) i) ∧ wr = w.drewN n) (fun _ k _ => 3 - (intOf k).toNat)
    case atStart => exact ⟨0, _, _, by omega, rfl, rfl, by show Sim _ _ (fop .quo .f64 (fconv .f32 x .f64 % 9223372036854775808) (fconv .f32 y .f64 % 9223372036854775808)); with_reducible assumption, rfl⟩
    case round =>
      obtain ⟨j, q, n, hi, rfl, rfl, hq, rfl⟩ := hrel
      by_cases hlt : j < 3
      · go_wp2_with (first | (go_at_call 62; refine (sqrtW _ _ _ (by with_reducible assumption)).mono ?_; rintro e w' ⟨r, n, rfl, rfl, hr, hb⟩) | (refine wpList_fsim rfl _ _ _ _ _ rfl rfl .f64 _ _ rfl rfl (by first | with_reducible assumption | exact Sim.refl _ _) (by first | with_reducible assumption | exact Sim.refl _ _) ?_; intro r n hr hb))
        go_roundw
        case rel => exact ⟨j + 1, _, _, by omega, by go_num, rfl, by show Sim _ _ (fop .quo .f64 (tS (fop .quo .f64 (fconv .f32 x .f64 % 9223372036854775808) (fconv .f32 y .f64 % 9223372036854775808)) j) (den (tS (fop .quo .f64 (fconv .f32 x .f64 % 9223372036854775808) (fconv .f32 y .f64 % 9223372036854775808)) j))); unfold den; with_reducible assumption, rfl⟩
        case measure => simp [intOf]; omega
      · obtain rfl : j = 3 := by omega
        go_wp2_with (refine wpList_fsim rfl _ _ _ _ _ rfl rfl .f64 _ _ rfl rfl (by first | with_reducible assumption | exact Sim.refl _ _) (by first | with_reducible assumption | exact Sim.refl _ _) ?_; intro r n hr hb)
        go_loopw [11, 12] (fun p k wr => ∃ (i q n : Nat) (c : Int), i ≤ 8 ∧ k = .int .i64 c ∧ Hid (c = 15 - 2 * (i : Int)) ∧ p = .float .f64 q ∧ Sim .f64 q (pA (fop .mul .f64 (tS (fop .quo .f64 (fconv .f32 x .f64 % 9223372036854775808) (fconv .f32 y .f64 % 9223372036854775808)) 3) (tS (fop .quo .f64 (fconv .f32 x .f64 % 9223372036854775808) (fconv .f32 y .f64 % 9223372036854775808)) 3)) i) ∧ wr = w.drewN n) (fun _ k _ => (intOf k + 1).toNat)
        case atStart => exact ⟨0, 0, _, 15, by omega, rfl, hid rfl, rfl, Sim.refl _ _, rfl⟩
        case round =>
          obtain ⟨i, q2, n2, c, hi2, rfl, hcc, rfl, hq2, rfl⟩ := hrel
          by_cases hlt2 : i < 8
          · skip
            have hc1 : 1 ≤ c := by have := hcc.out; omega
            have hc2 : c ≤ 15 := by have := hcc.out; omega
            have HI := hid (show floatOfInt .f64 c = ak i by rw [hcc.out]; exact ak_int i hlt2)
            go_wp2_with (refine wpList_fsim rfl _ _ _ _ _ rfl rfl .f64 _ _ rfl rfl (by first | with_reducible assumption | exact Sim.refl _ _) (by first | with_reducible assumption | exact Sim.refl _ _) ?_; intro r n hr hb)
            go_roundw
            case rel => exact ⟨i + 1, _, _, c - 2, by omega, rfl, hid (by have := hcc.out; omega), rfl, by show Sim _ _ (fop .sub .f64 (fop .quo .f64 one (ak i)) (fop .mul .f64 (fop .mul .f64 (tS (fop .quo .f64 (fconv .f32 x .f64 % 9223372036854775808) (fconv .f32 y .f64 % 9223372036854775808)) 3) (tS (fop .quo .f64 (fconv .f32 x .f64 % 9223372036854775808) (fconv .f32 y .f64 % 9223372036854775808)) 3)) (pA (fop .mul .f64 (tS (fop .quo .f64 (fconv .f32 x .f64 % 9223372036854775808) (fconv .f32 y .f64 % 9223372036854775808)) 3) (tS (fop .quo .f64 (fconv .f32 x .f64 % 9223372036854775808) (fconv .f32 y .f64 % 9223372036854775808)) 3)) i))); rw [← HI.out]; with_reducible assumption, rfl⟩
            case measure => simp [intOf]; omega
          · obtain rfl : i = 8 := by omega
            have hc1 : c < 1 := by have := hcc.out; omega
            have hc2 : -2 ≤ c := by have := hcc.out; omega
            go_wp2_with (refine wpList_fsim rfl _ _ _ _ _ rfl rfl .f64 _ _ rfl rfl (by first | with_reducible assumption | exact Sim.refl _ _) (by first | with_reducible assumption | exact Sim.refl _ _) ?_; intro r n hr hb)
            go_ret
            exact ⟨_, _, rfl, rfl, by rw [E3.out]; with_reducible assumption, hb⟩
  · have hzy2 := hzy rfl
    clear hzy
    go_enter Try.func86, Try.ntmps86
    go_wp2_with (first | (go_at_call 59; refine (absW _ _ ?_).mono ?_; (exact fits64 (by with_reducible assumption)); rintro e w' ⟨rfl, rfl⟩) | (refine wpList_fsim rfl .sub _ _ _ _ rfl rfl .f64 _ _ rfl rfl (Sim.refl _ _) (Sim.refl _ _) ?_; intro r n hr hb; have ht0 := order_congr hr (Sim.refl .f64 0)) | (refine wpList_fsim rfl _ _ _ _ _ rfl rfl .f64 _ _ rfl rfl (by first | with_reducible assumption | exact Sim.refl _ _) (by first | with_reducible assumption | exact Sim.refl _ _) ?_; intro r n hr hb))
    go_loopw [8, 9] (fun t k wr => ∃ (i q n : Nat), i ≤ 3 ∧ k = .int .i64 i ∧ t = .float .f64 q ∧ Sim .f64 q (tS (fop .quo .f64 (fconv .f32 x .f64 % 9223372036854775808) (fconv .f32 y .f64 % 9223372036854775808)) i) ∧ wr = w.drewN n) (fun _ k _ => 3 - (intOf k).toNat)
    case atStart => exact ⟨0, _, _, by omega, rfl, rfl, by show Sim _ _ (fop .quo .f64 (fconv .f32 x .f64 % 9223372036854775808) (fconv .f32 y .f64 % 9223372036854775808)); with_reducible assumption, rfl⟩
    case round =>
      obtain ⟨j, q, n, hi, rfl, rfl, hq, rfl⟩ := hrel
      by_cases hlt : j < 3
      · go_wp2_with (first | (go_at_call 62; refine (sqrtW _ _ _ (by with_reducible assumption)).mono ?_; rintro e w' ⟨r, n, rfl, rfl, hr, hb⟩) | (refine wpList_fsim rfl _ _ _ _ _ rfl rfl .f64 _ _ rfl rfl (by first | with_reducible assumption | exact Sim.refl _ _) (by first | with_reducible assumption | exact Sim.refl _ _) ?_; intro r n hr hb))
        go_roundw
        case rel => exact ⟨j + 1, _, _, by omega, by go_num, rfl, by show Sim _ _ (fop .quo .f64 (tS (fop .quo .f64 (fconv .f32 x .f64 % 9223372036854775808) (fconv .f32 y .f64 % 9223372036854775808)) j) (den (tS (fop .quo .f64 (fconv .f32 x .f64 % 9223372036854775808) (fconv .f32 y .f64 % 9223372036854775808)) j))); unfold den; with_reducible assumption, rfl⟩
        case measure => simp [intOf]; omega
      · obtain rfl : j = 3 := by omega
        go_wp2_with (refine wpList_fsim rfl _ _ _ _ _ rfl rfl .f64 _ _ rfl rfl (by first | with_reducible assumption | exact Sim.refl _ _) (by first | with_reducible assumption | exact Sim.refl _ _) ?_; intro r n hr hb)
        go_loopw [11, 12] (fun p k wr => ∃ (i q n : Nat) (c : Int), i ≤ 8 ∧ k = .int .i64 c ∧ Hid (c = 15 - 2 * (i : Int)) ∧ p = .float .f64 q ∧ Sim .f64 q (pA (fop .mul .f64 (tS (fop .quo .f64 (fconv .f32 x .f64 % 9223372036854775808) (fconv .f32 y .f64 % 9223372036854775808)) 3) (tS (fop .quo .f64 (fconv .f32 x .f64 % 9223372036854775808) (fconv .f32 y .f64 % 9223372036854775808)) 3)) i) ∧ wr = w.drewN n) (fun _ k _ => (intOf k + 1).toNat)
        case atStart => exact ⟨0, 0, _, 15, by omega, rfl, hid rfl, rfl, Sim.refl _ _, rfl⟩
        case round =>
          obtain ⟨i, q2, n2, c, hi2, rfl, hcc, rfl, hq2, rfl⟩ := hrel
          by_cases hlt2 : i < 8
          · skip
            have hc1 : 1 ≤ c := by have := hcc.out; omega
            have hc2 : c ≤ 15 := by have := hcc.out; omega
            have HI := hid (show floatOfInt .f64 c = ak i by rw [hcc.out]; exact ak_int i hlt2)
            go_wp2_with (refine wpList_fsim rfl _ _ _ _ _ rfl rfl .f64 _ _ rfl rfl (by first | with_reducible assumption | exact Sim.refl _ _) (by first | with_reducible assumption | exact Sim.refl _ _) ?_; intro r n hr hb)
            go_roundw
            case rel => exact ⟨i + 1, _, _, c - 2, by omega, rfl, hid (by have := hcc.out; omega), rfl, by show Sim _ _ (fop .sub .f64 (fop .quo .f64 one (ak i)) (fop .mul .f64 (fop .mul .f64 (tS (fop .quo .f64 (fconv .f32 x .f64 % 9223372036854775808) (fconv .f32 y .f64 % 9223372036854775808)) 3) (tS (fop .quo .f64 (fconv .f32 x .f64 % 9223372036854775808) (fconv .f32 y .f64 % 9223372036854775808)) 3)) (pA (fop .mul .f64 (tS (fop .quo .f64 (fconv .f32 x .f64 % 9223372036854775808) (fconv .f32 y .f64 % 9223372036854775808)) 3) (tS (fop .quo .f64 (fconv .f32 x .f64 % 9223372036854775808) (fconv .f32 y .f64 % 9223372036854775808)) 3)) i))); rw [← HI.out]; with_reducible assumption, rfl⟩
            case measure => simp [intOf]; omega
          · obtain rfl : i = 8 := by omega
            have hc1 : c < 1 := by have := hcc.out; omega
            have hc2 : -2 ≤ c := by have := hcc.out; omega
            go_wp2_with (refine wpList_fsim rfl _ _ _ _ _ rfl rfl .f64 _ _ rfl rfl (by first | with_reducible assumption | exact Sim.refl _ _) (by first | with_reducible assumption | exact Sim.refl _ _) ?_; intro r n hr hb)
            go_ret
            exact ⟨_, _, rfl, rfl, by rw [E3.out]; with_reducible assumption, hb⟩
set_option maxHeartbeats 2000000 in
theorem spAng101 (x y : Nat) (w : World) (hfx : Fits .f32 x) (hfy : Fits .f32 y) (gx : FinW Ieee.double (fconv .f32 x .f64)) (gy : FinW Ieee.double (fconv .f32 y .f64)) (ho : (FloatKind.f64.format.order (fconv .f32 y .f64 % 9223372036854775808) (fconv .f32 x .f64 % 9223372036854775808) == some .gt) = true) (hsx : (FloatKind.f64.format.order (fconv .f32 x .f64) 0 == some .lt) = false) (hsy : (FloatKind.f64.format.order (fconv .f32 y .f64) 0 == some .lt) = true) (zx : Bool) (hzx : (FloatKind.f64.format.order (fconv .f32 x .f64) 0 == some .eq) = zx) (hzy : zx = true → (FloatKind.f64.format.order (fconv .f32 y .f64) 0 == some .eq) = false) : Calls Try.prog 86 #[.float .f64 (fconv .f32 y .f64), .float .f64 (fconv .f32 x .f64)] w (RetF .f64 (An3 true false true (fop .quo .f64 (fconv .f32 x .f64 % 9223372036854775808) (fconv .f32 y .f64 % 9223372036854775808))) w) := by
  have hneg := neg64
  have HNx := hid (nan_of_fin (k := .f64) gx)
  have HNy := hid (nan_of_fin (k := .f64) gy)
  have E3 := hid (show An3 true false true (fop .quo .f64 (fconv .f32 x .f64 % 9223372036854775808) (fconv .f32 y .f64 % 9223372036854775808)) = fneg .f64 (fop .sub .f64 quarter (fop .quo .f64 (fop .mul .f64 eight (fop .mul .f64 (tS (fop .quo .f64 (fconv .f32 x .f64 % 9223372036854775808) (fconv .f32 y .f64 % 9223372036854775808)) 3) (pA (fop .mul .f64 (tS (fop .quo .f64 (fconv .f32 x .f64 % 9223372036854775808) (fconv .f32 y .f64 % 9223372036854775808)) 3) (tS (fop .quo .f64 (fconv .f32 x .f64 % 9223372036854775808) (fconv .f32 y .f64 % 9223372036854775808)) 3)) 8))) twoPi)) from rfl)
  have t0x := fin_neq gx
  have t0y := fin_neq gy
  have ffx := fits_fconv (k := .f64) hfx
  have ffy := fits_fconv (k := .f64) hfy
  clear gx gy
  cases zx
  · clear hzy
    go_enter Try.func86, Try.ntmps86
    go_wp2_with (first | (go_at_call 59; refine (absW _ _ ?_).mono ?_; (exact fits64 (by with_reducible assumption)); rintro e w' ⟨rfl, rfl⟩) | (refine wpList_fsim rfl .sub _ _ _ _ rfl rfl .f64 _ _ rfl rfl (Sim.refl _ _) (Sim.refl _ _) ?_; intro r n hr hb; have ht0 := order_congr hr (Sim.refl .f64 0)) | (refine wpList_fsim rfl _ _ _ _ _ rfl rfl .f64 _ _ rfl rfl (by first | with_reducible assumption | exact Sim.refl _ _) (by first | with_reducible assumption | exact Sim.refl _ _) ?_; intro r n hr hb))
    go_loopw [8, 9] (fun t k wr => ∃ (i q n : Nat), i ≤ 3 ∧ k = .int .i64 i ∧ t = .float .f64 q ∧ Sim .f64 q (tS (fop .quo .f64 (fconv .f32 x .f64 % 9223372036854775808) (fconv .f32 y .f64 % 9223372036854775808)) i) ∧ wr = w.drewN n) (fun _ k _ => 3 - (intOf k).toNat)
    case atStart => exact ⟨0, _, _, by omega, rfl, rfl, by show Sim _ _ (fop .quo .f64 (fconv .f32 x .f64 % 9223372036854775808) (fconv .f32 y .f64 % 9223372036854775808)); with_reducible assumption, rfl⟩
    case round =>
      obtain ⟨j, q, n, hi, rfl, rfl, hq, rfl⟩ := hrel
      by_cases hlt : j < 3
      · go_wp2_with (first | (go_at_call 62; refine (sqrtW _ _ _ (by with_reducible assumption)).mono ?_; rintro e w' ⟨r, n, rfl, rfl, hr, hb⟩) | (refine wpList_fsim rfl _ _ _ _ _ rfl rfl .f64 _ _ rfl rfl (by first | with_reducible assumption | exact Sim.refl _ _) (by first | with_reducible assumption | exact Sim.refl _ _) ?_; intro r n hr hb))
        go_roundw
        case rel => exact ⟨j + 1, _, _, by omega, by go_num, rfl, by show Sim _ _ (fop .quo .f64 (tS (fop .quo .f64 (fconv .f32 x .f64 % 9223372036854775808) (fconv .f32 y .f64 % 9223372036854775808)) j) (den (tS (fop .quo .f64 (fconv .f32 x .f64 % 9223372036854775808) (fconv .f32 y .f64 % 9223372036854775808)) j))); unfold den; with_reducible assumption, rfl⟩
        case measure => simp [intOf]; omega
      · obtain rfl : j = 3 := by omega
        go_wp2_with (refine wpList_fsim rfl _ _ _ _ _ rfl rfl .f64 _ _ rfl rfl (by first | with_reducible assumption | exact Sim.refl _ _) (by first | with_reducible assumption | exact Sim.refl _ _) ?_; intro r n hr hb)
        go_loopw [11, 12] (fun p k wr => ∃ (i q n : Nat) (c : Int), i ≤ 8 ∧ k = .int .i64 c ∧ Hid (c = 15 - 2 * (i : Int)) ∧ p = .float .f64 q ∧ Sim .f64 q (pA (fop .mul .f64 (tS (fop .quo .f64 (fconv .f32 x .f64 % 9223372036854775808) (fconv .f32 y .f64 % 9223372036854775808)) 3) (tS (fop .quo .f64 (fconv .f32 x .f64 % 9223372036854775808) (fconv .f32 y .f64 % 9223372036854775808)) 3)) i) ∧ wr = w.drewN n) (fun _ k _ => (intOf k + 1).toNat)
        case atStart => exact ⟨0, 0, _, 15, by omega, rfl, hid rfl, rfl, Sim.refl _ _, rfl⟩
        case round =>
          obtain ⟨i, q2, n2, c, hi2, rfl, hcc, rfl, hq2, rfl⟩ := hrel
          by_cases hlt2 : i < 8
          · skip
            have hc1 : 1 ≤ c := by have := hcc.out; omega
            have hc2 : c ≤ 15 := by have := hcc.out; omega
            have HI := hid (show floatOfInt .f64 c = ak i by rw [hcc.out]; exact ak_int i hlt2)
            go_wp2_with (refine wpList_fsim rfl _ _ _ _ _ rfl rfl .f64 _ _ rfl rfl (by first | with_reducible assumption | exact Sim.refl _ _) (by first | with_reducible assumption | exact Sim.refl _ _) ?_; intro r n hr hb)
            go_roundw
            case rel => exact ⟨i + 1, _, _, c - 2, by omega, rfl, hid (by have := hcc.out; omega), rfl, by show Sim _ _ (fop .sub .f64 (fop .quo .f64 one (ak i)) (fop .mul .f64 (fop .mul .f64 (tS (fop .quo .f64 (fconv .f32 x .f64 % 9223372036854775808) (fconv .f32 y .f64 % 9223372036854775808)) 3) (tS (fop .quo .f64 (fconv .f32 x .f64 % 9223372036854775808) (fconv .f32 y .f64 % 9223372036854775808)) 3)) (pA (fop .mul .f64 (tS (fop .quo .f64 (fconv .f32 x .f64 % 9223372036854775808) (fconv .f32 y .f64 % 9223372036854775808)) 3) (tS (fop .quo .f64 (fconv .f32 x .f64 % 9223372036854775808) (fconv .f32 y .f64 % 9223372036854775808)) 3)) i))); rw [← HI.out]; with_reducible assumption, rfl⟩
            case measure => simp [intOf]; omega
          · obtain rfl : i = 8 := by omega
            have hc1 : c < 1 := by have := hcc.out; omega
            have hc2 : -2 ≤ c := by have := hcc.out; omega
            go_wp2_with (refine wpList_fsim rfl _ _ _ _ _ rfl rfl .f64 _ _ rfl rfl (by first | with_reducible assumption | exact Sim.refl _ _) (by first | with_reducible assumption | exact Sim.refl _ _) ?_; intro r n hr hb)
            go_ret
            exact ⟨_, _, rfl, rfl, by rw [E3.out]; exact sim_neg hb (fits_fop ..) (by with_reducible assumption), fits_neg hb⟩
  · have hzy2 := hzy rfl
    clear hzy
    go_enter Try.func86, Try.ntmps86
    go_wp2_with (first | (go_at_call 59; refine (absW _ _ ?_).mono ?_; (exact fits64 (by with_reducible assumption)); rintro e w' ⟨rfl, rfl⟩) | (refine wpList_fsim rfl .sub _ _ _ _ rfl rfl .f64 _ _ rfl rfl (Sim.refl _ _) (Sim.refl _ _) ?_; intro r n hr hb; have ht0 := order_congr hr (Sim.refl .f64 0)) | (refine wpList_fsim rfl _ _ _ _ _ rfl rfl .f64 _ _ rfl rfl (by first | with_reducible assumption | exact Sim.refl _ _) (by first | with_reducible assumption | exact Sim.refl _ _) ?_; intro r n hr hb))
    go_loopw [8, 9] (fun t k wr => ∃ (i q n : Nat), i ≤ 3 ∧ k = .int .i64 i ∧ t = .float .f64 q ∧ Sim .f64 q (tS (fop .quo .f64 (fconv .f32 x .f64 % 9223372036854775808) (fconv .f32 y .f64 % 9223372036854775808)) i) ∧ wr = w.drewN n) (fun _ k _ => 3 - (intOf k).toNat)
    case atStart => exact ⟨0, _, _, by omega, rfl, rfl, by show Sim _ _ (fop .quo .f64 (fconv .f32 x .f64 % 9223372036854775808) (fconv .f32 y .f64 % 9223372036854775808)); with_reducible assumption, rfl⟩
    case round =>
      obtain ⟨j, q, n, hi, rfl, rfl, hq, rfl⟩ := hrel
      by_cases hlt : j < 3
      · go_wp2_with (first | (go_at_call 62; refine (sqrtW _ _ _ (by with_reducible assumption)).mono ?_; rintro e w' ⟨r, n, rfl, rfl, hr, hb⟩) | (refine wpList_fsim rfl _ _ _ _ _ rfl rfl .f64 _ _ rfl rfl (by first | with_reducible assumption | exact Sim.refl _ _) (by first | with_reducible assumption | exact Sim.refl _ _) ?_; intro r n hr hb))
        go_roundw
        case rel => exact ⟨j + 1, _, _, by omega, by go_num, rfl, by show Sim _ _ (fop .quo .f64 (tS (fop .quo .f64 (fconv .f32 x .f64 % 9223372036854775808) (fconv .f32 y .f64 % 9223372036854775808)) j) (den (tS (fop .quo .f64 (fconv .f32 x .f64 % 9223372036854775808) (fconv .f32 y .f64 % 9223372036854775808)) j))); unfold den; with_reducible assumption, rfl⟩
        case measure => simp [intOf]; omega
      · obtain rfl : j = 3 := by omega
        go_wp2_with (refine wpList_fsim rfl _ _ _ _ _ rfl rfl .f64 _ _ rfl rfl (by first | with_reducible assumption | exact Sim.refl _ _) (by first | with_reducible assumption | exact Sim.refl _ _) ?_; intro r n hr hb)
        go_loopw [11, 12] (fun p k wr => ∃ (i q n : Nat) (c : Int), i ≤ 8 ∧ k = .int .i64 c ∧ Hid (c = 15 - 2 * (i : Int)) ∧ p = .float .f64 q ∧ Sim .f64 q (pA (fop .mul .f64 (tS (fop .quo .f64 (fconv .f32 x .f64 % 9223372036854775808) (fconv .f32 y .f64 % 9223372036854775808)) 3) (tS (fop .quo .f64 (fconv .f32 x .f64 % 9223372036854775808) (fconv .f32 y .f64 % 9223372036854775808)) 3)) i) ∧ wr = w.drewN n) (fun _ k _ => (intOf k + 1).toNat)
        case atStart => exact ⟨0, 0, _, 15, by omega, rfl, hid rfl, rfl, Sim.refl _ _, rfl⟩
        case round =>
          obtain ⟨i, q2, n2, c, hi2, rfl, hcc, rfl, hq2, rfl⟩ := hrel
          by_cases hlt2 : i < 8
          · skip
            have hc1 : 1 ≤ c := by have := hcc.out; omega
            have hc2 : c ≤ 15 := by have := hcc.out; omega
            have HI := hid (show floatOfInt .f64 c = ak i by rw [hcc.out]; exact ak_int i hlt2)
            go_wp2_with (refine wpList_fsim rfl _ _ _ _ _ rfl rfl .f64 _ _ rfl rfl (by first | with_reducible assumption | exact Sim.refl _ _) (by first | with_reducible assumption | exact Sim.refl _ _) ?_; intro r n hr hb)
            go_roundw
            case rel => exact ⟨i + 1, _, _, c - 2, by omega, rfl, hid (by have := hcc.out; omega), rfl, by show Sim _ _ (fop .sub .f64 (fop .quo .f64 one (ak i)) (fop .mul .f64 (fop .mul .f64 (tS (fop .quo .f64 (fconv .f32 x .f64 % 9223372036854775808) (fconv .f32 y .f64 % 9223372036854775808)) 3) (tS (fop .quo .f64 (fconv .f32 x .f64 % 9223372036854775808) (fconv .f32 y .f64 % 9223372036854775808)) 3)) (pA (fop .mul .f64 (tS (fop .quo .f64 (fconv .f32 x .f64 % 9223372036854775808) (fconv .f32 y .f64 % 9223372036854775808)) 3) (tS (fop .quo .f64 (fconv .f32 x .f64 % 9223372036854775808) (fconv .f32 y .f64 % 9223372036854775808)) 3)) i))); rw [← HI.out]; with_reducible assumption, rfl⟩
            case measure => simp [intOf]; omega
          · obtain rfl : i = 8 := by omega
            have hc1 : c < 1 := by have := hcc.out; omega
            have hc2 : -2 ≤ c := by have := hcc.out; omega
            go_wp2_with (refine wpList_fsim rfl _ _ _ _ _ rfl rfl .f64 _ _ rfl rfl (by first | with_reducible assumption | exact Sim.refl _ _) (by first | with_reducible assumption | exact Sim.refl _ _) ?_; intro r n hr hb)
            go_ret
            exact ⟨_, _, rfl, rfl, by rw [E3.out]; exact sim_neg hb (fits_fop ..) (by with_reducible assumption), fits_neg hb⟩
set_option maxHeartbeats 2000000 in
theorem spAng110 (x y : Nat) (w : World) (hfx : Fits .f32 x) (hfy : Fits .f32 y) (gx : FinW Ieee.double (fconv .f32 x .f64)) (gy : FinW Ieee.double (fconv .f32 y .f64)) (ho : (FloatKind.f64.format.order (fconv .f32 y .f64 % 9223372036854775808) (fconv .f32 x .f64 % 9223372036854775808) == some .gt) = true) (hsx : (FloatKind.f64.format.order (fconv .f32 x .f64) 0 == some .lt) = true) (hsy : (FloatKind.f64.format.order (fconv .f32 y .f64) 0 == some .lt) = false) (zx : Bool) (hzx : (FloatKind.f64.format.order (fconv .f32 x .f64) 0 == some .eq) = zx) (hzy : zx = true → (FloatKind.f64.format.order (fconv .f32 y .f64) 0 == some .eq) = false) : Calls Try.prog 86 #[.float .f64 (fconv .f32 y .f64), .float .f64 (fconv .f32 x .f64)] w (RetF .f64 (An3 true true false (fop .quo .f64 (fconv .f32 x .f64 % 9223372036854775808) (fconv .f32 y .f64 % 9223372036854775808))) w) := by
  have hneg := neg64
  have HNx := hid (nan_of_fin (k := .f64) gx)
  have HNy := hid (nan_of_fin (k := .f64) gy)
  have E3 := hid (show An3 true true false (fop .quo .f64 (fconv .f32 x .f64 % 9223372036854775808) (fconv .f32 y .f64 % 9223372036854775808)) = fop .sub .f64 half (fop .sub .f64 quarter (fop .quo .f64 (fop .mul .f64 eight (fop .mul .f64 (tS (fop .quo .f64 (fconv .f32 x .f64 % 9223372036854775808) (fconv .f32 y .f64 % 9223372036854775808)) 3) (pA (fop .mul .f64 (tS (fop .quo .f64 (fconv .f32 x .f64 % 9223372036854775808) (fconv .f32 y .f64 % 9223372036854775808)) 3) (tS (fop .quo .f64 (fconv .f32 x .f64 % 9223372036854775808) (fconv .f32 y .f64 % 9223372036854775808)) 3)) 8))) twoPi)) from rfl)
  have t0x := fin_neq gx
  have t0y := fin_neq gy
  have ffx := fits_fconv (k := .f64) hfx
  have ffy := fits_fconv (k := .f64) hfy
  clear gx gy
  cases zx
  · clear hzy
    go_enter Try.func86, Try.ntmps86
    go_wp2_with (first | (go_at_call 59; refine (absW _ _ ?_).mono ?_; (exact fits64 (by with_reducible assumption)); rintro e w' ⟨rfl, rfl⟩) | (refine wpList_fsim rfl .sub _ _ _ _ rfl rfl .f64 _ _ rfl rfl (Sim.refl _ _) (Sim.refl _ _) ?_; intro r n hr hb; have ht0 := order_congr hr (Sim.refl .f64 0)) | (refine wpList_fsim rfl _ _ _ _ _ rfl rfl .f64 _ _ rfl rfl (by first | with_reducible assumption | exact Sim.refl _ _) (by first | with_reducible assumption | exact Sim.refl _ _) ?_; intro r n hr hb))
    go_loopw [8, 9] (fun t k wr => ∃ (i q n : Nat), i ≤ 3 ∧ k = .int .i64 i ∧ t = .float .f64 q ∧ Sim .f64 q (tS (fop .quo .f64 (fconv .f32 x .f64 % 9223372036854775808) (fconv .f32 y .f64 % 9223372036854775808)) i) ∧ wr = w.drewN n) (fun _ k _ => 3 - (intOf k).toNat)
    case atStart => exact ⟨0, _, _, by omega, rfl, rfl, by show Sim _ _ (fop .quo .f64 (fconv .f32 x .f64 % 9223372036854775808) (fconv .f32 y .f64 % 9223372036854775808)); with_reducible assumption, rfl⟩
    case round =>
      obtain ⟨j, q, n, hi, rfl, rfl, hq, rfl⟩ := hrel
      by_cases hlt : j < 3
      · go_wp2_with (first | (go_at_call 62; refine (sqrtW _ _ _ (by with_reducible assumption)).mono ?_; rintro e w' ⟨r, n, rfl, rfl, hr, hb⟩) | (refine wpList_fsim rfl _ _ _ _ _ rfl rfl .f64 _ _ rfl rfl (by first | with_reducible assumption | exact Sim.refl _ _) (by first | with_reducible assumption | exact Sim.refl _ _) ?_; intro r n hr hb))
        go_roundw
        case rel => exact ⟨j + 1, _, _, by omega, by go_num, rfl, by show Sim _ _ (fop .quo .f64 (tS (fop .quo .f64 (fconv .f32 x .f64 % 9223372036854775808) (fconv .f32 y .f64 % 9223372036854775808)) j) (den (tS (fop .quo .f64 (fconv .f32 x .f64 % 9223372036854775808) (fconv .f32 y .f64 % 9223372036854775808)) j))); unfold den; with_reducible assumption, rfl⟩
        case measure => simp [intOf]; omega
      · obtain rfl : j = 3 := by omega
        go_wp2_with (refine wpList_fsim rfl _ _ _ _ _ rfl rfl .f64 _ _ rfl rfl (by first | with_reducible assumption | exact Sim.refl _ _) (by first | with_reducible assumption | exact Sim.refl _ _) ?_; intro r n hr hb)
        go_loopw [11, 12] (fun p k wr => ∃ (i q n : Nat) (c : Int), i ≤ 8 ∧ k = .int .i64 c ∧ Hid (c = 15 - 2 * (i : Int)) ∧ p = .float .f64 q ∧ Sim .f64 q (pA (fop .mul .f64 (tS (fop .quo .f64 (fconv .f32 x .f64 % 9223372036854775808) (fconv .f32 y .f64 % 9223372036854775808)) 3) (tS (fop .quo .f64 (fconv .f32 x .f64 % 9223372036854775808) (fconv .f32 y .f64 % 9223372036854775808)) 3)) i) ∧ wr = w.drewN n) (fun _ k _ => (intOf k + 1).toNat)
        case atStart => exact ⟨0, 0, _, 15, by omega, rfl, hid rfl, rfl, Sim.refl _ _, rfl⟩
        case round =>
          obtain ⟨i, q2, n2, c, hi2, rfl, hcc, rfl, hq2, rfl⟩ := hrel
          by_cases hlt2 : i < 8
          · skip
            have hc1 : 1 ≤ c := by have := hcc.out; omega
            have hc2 : c ≤ 15 := by have := hcc.out; omega
            have HI := hid (show floatOfInt .f64 c = ak i by rw [hcc.out]; exact ak_int i hlt2)
            go_wp2_with (refine wpList_fsim rfl _ _ _ _ _ rfl rfl .f64 _ _ rfl rfl (by first | with_reducible assumption | exact Sim.refl _ _) (by first | with_reducible assumption | exact Sim.refl _ _) ?_; intro r n hr hb)
            go_roundw
            case rel => exact ⟨i + 1, _, _, c - 2, by omega, rfl, hid (by have := hcc.out; omega), rfl, by show Sim _ _ (fop .sub .f64 (fop .quo .f64 one (ak i)) (fop .mul .f64 (fop .mul .f64 (tS (fop .quo .f64 (fconv .f32 x .f64 % 9223372036854775808) (fconv .f32 y .f64 % 9223372036854775808)) 3) (tS (fop .quo .f64 (fconv .f32 x .f64 % 9223372036854775808) (fconv .f32 y .f64 % 9223372036854775808)) 3)) (pA (fop .mul .f64 (tS (fop .quo .f64 (fconv .f32 x .f64 % 9223372036854775808) (fconv .f32 y .f64 % 9223372036854775808)) 3) (tS (fop .quo .f64 (fconv .f32 x .f64 % 9223372036854775808) (fconv .f32 y .f64 % 9223372036854775808)) 3)) i))); rw [← HI.out]; with_reducible assumption, rfl⟩
            case measure => simp [intOf]; omega
          · obtain rfl : i = 8 := by omega
            have hc1 : c < 1 := by have := hcc.out; omega
            have hc2 : -2 ≤ c := by have := hcc.out; omega
            go_wp2_with (refine wpList_fsim rfl _ _ _ _ _ rfl rfl .f64 _ _ rfl rfl (by first | with_reducible assumption | exact Sim.refl _ _) (by first | with_reducible assumption | exact Sim.refl _ _) ?_; intro r n hr hb)
            go_ret
            exact ⟨_, _, rfl, rfl, by rw [E3.out]; with_reducible assumption, hb⟩
  · have hzy2 := hzy rfl
    clear hzy
    go_enter Try.func86, Try.ntmps86
    go_wp2_with (first | (go_at_call 59; refine (absW _ _ ?_).mono ?_; (exact fits64 (by with_reducible assumption)); rintro e w' ⟨rfl, rfl⟩) | (refine wpList_fsim rfl .sub _ _ _ _ rfl rfl .f64 _ _ rfl rfl (Sim.refl _ _) (Sim.refl _ _) ?_; intro r n hr hb; have ht0 := order_congr hr (Sim.refl .f64 0)) | (refine wpList_fsim rfl _ _ _ _ _ rfl rfl .f64 _ _ rfl rfl (by first | with_reducible assumption | exact Sim.refl _ _) (by first | with_reducible assumption | exact Sim.refl _ _) ?_; intro r n hr hb))
    go_loopw [8, 9] (fun t k wr => ∃ (i q n : Nat), i ≤ 3 ∧ k = .int .i64 i ∧ t = .float .f64 q ∧ Sim .f64 q (tS (fop .quo .f64 (fconv .f32 x .f64 % 9223372036854775808) (fconv .f32 y .f64 % 9223372036854775808)) i) ∧ wr = w.drewN n) (fun _ k _ => 3 - (intOf k).toNat)
    case atStart => exact ⟨0, _, _, by omega, rfl, rfl, by show Sim _ _ (fop .quo .f64 (fconv .f32 x .f64 % 9223372036854775808) (fconv .f32 y .f64 % 9223372036854775808)); with_reducible assumption, rfl⟩
    case round =>
      obtain ⟨j, q, n, hi, rfl, rfl, hq, rfl⟩ := hrel
      by_cases hlt : j < 3
      · go_wp2_with (first | (go_at_call 62; refine (sqrtW _ _ _ (by with_reducible assumption)).mono ?_; rintro e w' ⟨r, n, rfl, rfl, hr, hb⟩) | (refine wpList_fsim rfl _ _ _ _ _ rfl rfl .f64 _ _ rfl rfl (by first | with_reducible assumption | exact Sim.refl _ _) (by first | with_reducible assumption | exact Sim.refl _ _) ?_; intro r n hr hb))
        go_roundw
        case rel => exact ⟨j + 1, _, _, by omega, by go_num, rfl, by show Sim _ _ (fop .quo .f64 (tS (fop .quo .f64 (fconv .f32 x .f64 % 9223372036854775808) (fconv .f32 y .f64 % 9223372036854775808)) j) (den (tS (fop .quo .f64 (fconv .f32 x .f64 % 9223372036854775808) (fconv .f32 y .f64 % 9223372036854775808)) j))); unfold den; with_reducible assumption, rfl⟩
        case measure => simp [intOf]; omega
      · obtain rfl : j = 3 := by omega
        go_wp2_with (refine wpList_fsim rfl _ _ _ _ _ rfl rfl .f64 _ _ rfl rfl (by first | with_reducible assumption | exact Sim.refl _ _) (by first | with_reducible assumption | exact Sim.refl _ _) ?_; intro r n hr hb)
        go_loopw [11, 12] (fun p k wr => ∃ (i q n : Nat) (c : Int), i ≤ 8 ∧ k = .int .i64 c ∧ Hid (c = 15 - 2 * (i : Int)) ∧ p = .float .f64 q ∧ Sim .f64 q (pA (fop .mul .f64 (tS (fop .quo .f64 (fconv .f32 x .f64 % 9223372036854775808) (fconv .f32 y .f64 % 9223372036854775808)) 3) (tS (fop .quo .f64 (fconv .f32 x .f64 % 9223372036854775808) (fconv .f32 y .f64 % 9223372036854775808)) 3)) i) ∧ wr = w.drewN n) (fun _ k _ => (intOf k + 1).toNat)
        case atStart => exact ⟨0, 0, _, 15, by omega, rfl, hid rfl, rfl, Sim.refl _ _, rfl⟩
        case round =>
          obtain ⟨i, q2, n2, c, hi2, rfl, hcc, rfl, hq2, rfl⟩ := hrel
          by_cases hlt2 : i < 8
          · skip
            have hc1 : 1 ≤ c := by have := hcc.out; omega
            have hc2 : c ≤ 15 := by have := hcc.out; omega
            have HI := hid (show floatOfInt .f64 c = ak i by rw [hcc.out]; exact ak_int i hlt2)
            go_wp2_with (refine wpList_fsim rfl _ _ _ _ _ rfl rfl .f64 _ _ rfl rfl (by first | with_reducible assumption | exact Sim.refl _ _) (by first | with_reducible assumption | exact Sim.refl _ _) ?_; intro r n hr hb)
            go_roundw
            case rel => exact ⟨i + 1, _, _, c - 2, by omega, rfl, hid (by have := hcc.out; omega), rfl, by show Sim _ _ (fop .sub .f64 (fop .quo .f64 one (ak i)) (fop .mul .f64 (fop .mul .f64 (tS (fop .quo .f64 (fconv .f32 x .f64 % 9223372036854775808) (fconv .f32 y .f64 % 9223372036854775808)) 3) (tS (fop .quo .f64 (fconv .f32 x .f64 % 9223372036854775808) (fconv .f32 y .f64 % 9223372036854775808)) 3)) (pA (fop .mul .f64 (tS (fop .quo .f64 (fconv .f32 x .f64 % 9223372036854775808) (fconv .f32 y .f64 % 9223372036854775808)) 3) (tS (fop .quo .f64 (fconv .f32 x .f64 % 9223372036854775808) (fconv .f32 y .f64 % 9223372036854775808)) 3)) i))); rw [← HI.out]; with_reducible assumption, rfl⟩
            case measure => simp [intOf]; omega
          · obtain rfl : i = 8 := by omega
            have hc1 : c < 1 := by have := hcc.out; omega
            have hc2 : -2 ≤ c := by have := hcc.out; omega
            go_wp2_with (refine wpList_fsim rfl _ _ _ _ _ rfl rfl .f64 _ _ rfl rfl (by first | with_reducible assumption | exact Sim.refl _ _) (by first | with_reducible assumption | exact Sim.refl _ _) ?_; intro r n hr hb)
            go_ret
            exact ⟨_, _, rfl, rfl, by rw [E3.out]; with_reducible assumption, hb⟩
set_option maxHeartbeats 2000000 in
theorem spAng111 (x y : Nat) (w : World) (hfx : Fits .f32 x) (hfy : Fits .f32 y) (gx : FinW Ieee.double (fconv .f32 x .f64)) (gy : FinW Ieee.double (fconv .f32 y .f64)) (ho : (FloatKind.f64.format.order (fconv .f32 y .f64 % 9223372036854775808) (fconv .f32 x .f64 % 9223372036854775808) == some .gt) = true) (hsx : (FloatKind.f64.format.order (fconv .f32 x .f64) 0 == some .lt) = true) (hsy : (FloatKind.f64.format.order (fconv .f32 y .f64) 0 == some .lt) = true) (zx : Bool) (hzx : (FloatKind.f64.format.order (fconv .f32 x .f64) 0 == some .eq) = zx) (hzy : zx = true → (FloatKind.f64.format.order (fconv .f32 y .f64) 0 == some .eq) = false) : Calls Try.prog 86 #[.float .f64 (fconv .f32 y .f64), .float .f64 (fconv .f32 x .f64)] w (RetF .f64 (An3 true true true (fop .quo .f64 (fconv .f32 x .f64 % 9223372036854775808) (fconv .f32 y .f64 % 9223372036854775808))) w) := by
  have hneg := neg64
  have HNx := hid (nan_of_fin (k := .f64) gx)
  have HNy := hid (nan_of_fin (k := .f64) gy)
  have E3 := hid (show An3 true true true (fop .quo .f64 (fconv .f32 x .f64 % 9223372036854775808) (fconv .f32 y .f64 % 9223372036854775808)) = fneg .f64 (fop .sub .f64 half (fop .sub .f64 quarter (fop .quo .f64 (fop .mul .f64 eight (fop .mul .f64 (tS (fop .quo .f64 (fconv .f32 x .f64 % 9223372036854775808) (fconv .f32 y .f64 % 9223372036854775808)) 3) (pA (fop .mul .f64 (tS (fop .quo .f64 (fconv .f32 x .f64 % 9223372036854775808) (fconv .f32 y .f64 % 9223372036854775808)) 3) (tS (fop .quo .f64 (fconv .f32 x .f64 % 9223372036854775808) (fconv .f32 y .f64 % 9223372036854775808)) 3)) 8))) twoPi))) from rfl)
  have t0x := fin_neq gx
  have t0y := fin_neq gy
  have ffx := fits_fconv (k := .f64) hfx
  have ffy := fits_fconv (k := .f64) hfy
  clear gx gy
  cases zx
  · clear hzy
    go_enter Try.func86, Try.ntmps86
    go_wp2_with (first | (go_at_call 59; refine (absW _ _ ?_).mono ?_; (exact fits64 (by with_reducible assumption)); rintro e w' ⟨rfl, rfl⟩) | (refine wpList_fsim rfl .sub _ _ _ _ rfl rfl .f64 _ _ rfl rfl (Sim.refl _ _) (Sim.refl _ _) ?_; intro r n hr hb; have ht0 := order_congr hr (Sim.refl .f64 0)) | (refine wpList_fsim rfl _ _ _ _ _ rfl rfl .f64 _ _ rfl rfl (by first | with_reducible assumption | exact Sim.refl _ _) (by first | with_reducible assumption | exact Sim.refl _ _) ?_; intro r n hr hb))
    go_loopw [8, 9] (fun t k wr => ∃ (i q n : Nat), i ≤ 3 ∧ k = .int .i64 i ∧ t = .float .f64 q ∧ Sim .f64 q (tS (fop .quo .f64 (fconv .f32 x .f64 % 9223372036854775808) (fconv .f32 y .f64 % 9223372036854775808)) i) ∧ wr = w.drewN n) (fun _ k _ => 3 - (intOf k).toNat)
    case atStart => exact ⟨0, _, _, by omega, rfl, rfl, by show Sim _ _ (fop .quo .f64 (fconv .f32 x .f64 % 9223372036854775808) (fconv .f32 y .f64 % 9223372036854775808)); with_reducible assumption, rfl⟩
    case round =>
      obtain ⟨j, q, n, hi, rfl, rfl, hq, rfl⟩ := hrel
      by_cases hlt : j < 3
      · go_wp2_with (first | (go_at_call 62; refine (sqrtW _ _ _ (by with_reducible assumption)).mono ?_; rintro e w' ⟨r, n, rfl, rfl, hr, hb⟩) | (refine wpList_fsim rfl _ _ _ _ _ rfl rfl .f64 _ _ rfl rfl (by first | with_reducible assumption | exact Sim.refl _ _) (by first | with_reducible assumption | exact Sim.refl _ _) ?_; intro r n hr hb))
        go_roundw
        case rel => exact ⟨j + 1, _, _, by omega, by go_num, rfl, by show Sim _ _ (fop .quo .f64 (tS (fop .quo .f64 (fconv .f32 x .f64 % 9223372036854775808) (fconv .f32 y .f64 % 9223372036854775808)) j) (den (tS (fop .quo .f64 (fconv .f32 x .f64 % 9223372036854775808) (fconv .f32 y .f64 % 9223372036854775808)) j))); unfold den; with_reducible assumption, rfl⟩
        case measure => simp [intOf]; omega
      · obtain rfl : j = 3 := by omega
        go_wp2_with (refine wpList_fsim rfl _ _ _ _ _ rfl rfl .f64 _ _ rfl rfl (by first | with_reducible assumption | exact Sim.refl _ _) (by first | with_reducible assumption | exact Sim.refl _ _) ?_; intro r n hr hb)
        go_loopw [11, 12] (fun p k wr => ∃ (i q n : Nat) (c : Int), i ≤ 8 ∧ k = .int .i64 c ∧ Hid (c = 15 - 2 * (i : Int)) ∧ p = .float .f64 q ∧ Sim .f64 q (pA (fop .mul .f64 (tS (fop .quo .f64 (fconv .f32 x .f64 % 9223372036854775808) (fconv .f32 y .f64 % 9223372036854775808)) 3) (tS (fop .quo .f64 (fconv .f32 x .f64 % 9223372036854775808) (fconv .f32 y .f64 % 9223372036854775808)) 3)) i) ∧ wr = w.drewN n) (fun _ k _ => (intOf k + 1).toNat)
        case atStart => exact ⟨0, 0, _, 15, by omega, rfl, hid rfl, rfl, Sim.refl _ _, rfl⟩
        case round =>
          obtain ⟨i, q2, n2, c, hi2, rfl, hcc, rfl, hq2, rfl⟩ := hrel
          by_cases hlt2 : i < 8
          · skip
            have hc1 : 1 ≤ c := by have := hcc.out; omega
            have hc2 : c ≤ 15 := by have := hcc.out; omega
            have HI := hid (show floatOfInt .f64 c = ak i by rw [hcc.out]; exact ak_int i hlt2)
            go_wp2_with (refine wpList_fsim rfl _ _ _ _ _ rfl rfl .f64 _ _ rfl rfl (by first | with_reducible assumption | exact Sim.refl _ _) (by first | with_reducible assumption | exact Sim.refl _ _) ?_; intro r n hr hb)
            go_roundw
            case rel => exact ⟨i + 1, _, _, c - 2, by omega, rfl, hid (by have := hcc.out; omega), rfl, by show Sim _ _ (fop .sub .f64 (fop .quo .f64 one (ak i)) (fop .mul .f64 (fop .mul .f64 (tS (fop .quo .f64 (fconv .f32 x .f64 % 9223372036854775808) (fconv .f32 y .f64 % 9223372036854775808)) 3) (tS (fop .quo .f64 (fconv .f32 x .f64 % 9223372036854775808) (fconv .f32 y .f64 % 9223372036854775808)) 3)) (pA (fop .mul .f64 (tS (fop .quo .f64 (fconv .f32 x .f64 % 9223372036854775808) (fconv .f32 y .f64 % 9223372036854775808)) 3) (tS (fop .quo .f64 (fconv .f32 x .f64 % 9223372036854775808) (fconv .f32 y .f64 % 9223372036854775808)) 3)) i))); rw [← HI.out]; with_reducible assumption, rfl⟩
            case measure => simp [intOf]; omega
          · obtain rfl : i = 8 := by omega
            have hc1 : c < 1 := by have := hcc.out; omega
            have hc2 : -2 ≤ c := by have := hcc.out; omega
            go_wp2_with (refine wpList_fsim rfl _ _ _ _ _ rfl rfl .f64 _ _ rfl rfl (by first | with_reducible assumption | exact Sim.refl _ _) (by first | with_reducible assumption | exact Sim.refl _ _) ?_; intro r n hr hb)
            go_ret
            exact ⟨_, _, rfl, rfl, by rw [E3.out]; exact sim_neg hb (fits_fop ..) (by with_reducible assumption), fits_neg hb⟩
  · have hzy2 := hzy rfl
    clear hzy
    go_enter Try.func86, Try.ntmps86
    go_wp2_with (first | (go_at_call 59; refine (absW _ _ ?_).mono ?_; (exact fits64 (by with_reducible assumption)); rintro e w' ⟨rfl, rfl⟩) | (refine wpList_fsim rfl .sub _ _ _ _ rfl rfl .f64 _ _ rfl rfl (Sim.refl _ _) (Sim.refl _ _) ?_; intro r n hr hb; have ht0 := order_congr hr (Sim.refl .f64 0)) | (refine wpList_fsim rfl _ _ _ _ _ rfl rfl .f64 _ _ rfl rfl (by first | with_reducible assumption | exact Sim.refl _ _) (by first | with_reducible assumption | exact Sim.refl _ _) ?_; intro r n hr hb))
    go_loopw [8, 9] (fun t k wr => ∃ (i q n : Nat), i ≤ 3 ∧ k = .int .i64 i ∧ t = .float .f64 q ∧ Sim .f64 q (tS (fop .quo .f64 (fconv .f32 x .f64 % 9223372036854775808) (fconv .f32 y .f64 % 9223372036854775808)) i) ∧ wr = w.drewN n) (fun _ k _ => 3 - (intOf k).toNat)
    case atStart => exact ⟨0, _, _, by omega, rfl, rfl, by show Sim _ _ (fop .quo .f64 (fconv .f32 x .f64 % 9223372036854775808) (fconv .f32 y .f64 % 9223372036854775808)); with_reducible assumption, rfl⟩
    case round =>
      obtain ⟨j, q, n, hi, rfl, rfl, hq, rfl⟩ := hrel
      by_cases hlt : j < 3
      · go_wp2_with (first | (go_at_call 62; refine (sqrtW _ _ _ (by with_reducible assumption)).mono ?_; rintro e w' ⟨r, n, rfl, rfl, hr, hb⟩) | (refine wpList_fsim rfl _ _ _ _ _ rfl rfl .f64 _ _ rfl rfl (by first | with_reducible assumption | exact Sim.refl _ _) (by first | with_reducible assumption | exact Sim.refl _ _) ?_; intro r n hr hb))
        go_roundw
        case rel => exact ⟨j + 1, _, _, by omega, by go_num, rfl, by show Sim _ _ (fop .quo .f64 (tS (fop .quo .f64 (fconv .f32 x .f64 % 9223372036854775808) (fconv .f32 y .f64 % 9223372036854775808)) j) (den (tS (fop .quo .f64 (fconv .f32 x .f64 % 9223372036854775808) (fconv .f32 y .f64 % 9223372036854775808)) j))); unfold den; with_reducible assumption, rfl⟩
        case measure => simp [intOf]; omega
      · obtain rfl : j = 3 := by omega
        go_wp2_with (refine wpList_fsim rfl _ _ _ _ _ rfl rfl .f64 _ _ rfl rfl (by first | with_reducible assumption | exact Sim.refl _ _) (by first | with_reducible assumption | exact Sim.refl _ _) ?_; intro r n hr hb)
        go_loopw [11, 12] (fun p k wr => ∃ (i q n : Nat) (c : Int), i ≤ 8 ∧ k = .int .i64 c ∧ Hid (c = 15 - 2 * (i : Int)) ∧ p = .float .f64 q ∧ Sim .f64 q (pA (fop .mul .f64 (tS (fop .quo .f64 (fconv .f32 x .f64 % 9223372036854775808) (fconv .f32 y .f64 % 9223372036854775808)) 3) (tS (fop .quo .f64 (fconv .f32 x .f64 % 9223372036854775808) (fconv .f32 y .f64 % 9223372036854775808)) 3)) i) ∧ wr = w.drewN n) (fun _ k _ => (intOf k + 1).toNat)
        case atStart => exact ⟨0, 0, _, 15, by omega, rfl, hid rfl, rfl, Sim.refl _ _, rfl⟩
        case round =>
          obtain ⟨i, q2, n2, c, hi2, rfl, hcc, rfl, hq2, rfl⟩ := hrel
          by_cases hlt2 : i < 8
          · skip
            have hc1 : 1 ≤ c := by have := hcc.out; omega
            have hc2 : c ≤ 15 := by have := hcc.out; omega
            have HI := hid (show floatOfInt .f64 c = ak i by rw [hcc.out]; exact ak_int i hlt2)
            go_wp2_with (refine wpList_fsim rfl _ _ _ _ _ rfl rfl .f64 _ _ rfl rfl (by first | with_reducible assumption | exact Sim.refl _ _) (by first | with_reducible assumption | exact Sim.refl _ _) ?_; intro r n hr hb)
            go_roundw
            case rel => exact ⟨i + 1, _, _, c - 2, by omega, rfl, hid (by have := hcc.out; omega), rfl, by show Sim _ _ (fop .sub .f64 (fop .quo .f64 one (ak i)) (fop .mul .f64 (fop .mul .f64 (tS (fop .quo .f64 (fconv .f32 x .f64 % 9223372036854775808) (fconv .f32 y .f64 % 9223372036854775808)) 3) (tS (fop .quo .f64 (fconv .f32 x .f64 % 9223372036854775808) (fconv .f32 y .f64 % 9223372036854775808)) 3)) (pA (fop .mul .f64 (tS (fop .quo .f64 (fconv .f32 x .f64 % 9223372036854775808) (fconv .f32 y .f64 % 9223372036854775808)) 3) (tS (fop .quo .f64 (fconv .f32 x .f64 % 9223372036854775808) (fconv .f32 y .f64 % 9223372036854775808)) 3)) i))); rw [← HI.out]; with_reducible assumption, rfl⟩
            case measure => simp [intOf]; omega
          · obtain rfl : i = 8 := by omega
            have hc1 : c < 1 := by have := hcc.out; omega
            have hc2 : -2 ≤ c := by have := hcc.out; omega
            go_wp2_with (refine wpList_fsim rfl _ _ _ _ _ rfl rfl .f64 _ _ rfl rfl (by first | with_reducible assumption | exact Sim.refl _ _) (by first | with_reducible assumption | exact Sim.refl _ _) ?_; intro r n hr hb)
            go_ret
            exact ⟨_, _, rfl, rfl, by rw [E3.out]; exact sim_neg hb (fits_fop ..) (by with_reducible assumption), fits_neg hb⟩
end TryWalk
end Go.Proofs.Ytlabbakmlanfgaa
