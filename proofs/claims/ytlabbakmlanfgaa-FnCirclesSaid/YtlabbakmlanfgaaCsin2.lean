/- The law on SineTurns: both ways give the same float. No condition. -/
import Derived.Test.YtlabbakmlanfgaaCsin
namespace Go.Proofs.Ytlabbakmlanfgaa
open Go.RowKit Flo Iee
set_option linter.unusedVariables false
namespace TryWalk
def bitsS : Value → Nat | .float _ b => b | _ => 0

theorem fracW (y : Nat) (w : World) (hf : Fits .f64 y) (h : FinW Ieee.double y) (hb : mv Ieee.double (rung Ieee.double y) < 2 ^ 52 * 2 ^ un) : Calls Try.prog 66 #[.float .f64 y] w (RetF .f64 (fracF y) w) := by
  have hc : ∀ w, (convert 25 2 (.float .f64 y)).run Try.prog w = .ok (.int .i64 (toI y)) w := fun w => run_convert_float_int w 25 2 .f64 .i64 y (toI y) u25 Try.underlying2 (toI_val h hb).1
  have HB := hid (bd_nan (frac0_bd h hb))
  cases hq : (FloatKind.f64.format.order (frac0 y) 0 == some .lt)
  · have HQ := hid hq
    go_enter Try.func66, Try.ntmps66
    go_wp2_with (refine wpList_fsim rfl _ _ _ _ _ rfl rfl .f64 _ _ rfl rfl (by first | assumption | exact Sim.refl _ _) (by first | assumption | exact Sim.refl _ _) ?_; intro r n hr hb; have ht := order_congr hr (Sim.refl .f64 0); rw [← frac0] at hr ht)
    go_ret
    exact ⟨_, _, rfl, rfl, by unfold fracF; rw [HQ.out]; assumption, by assumption⟩
  · have HQ := hid hq
    go_enter Try.func66, Try.ntmps66
    go_wp2_with (refine wpList_fsim rfl _ _ _ _ _ rfl rfl .f64 _ _ rfl rfl (by first | assumption | exact Sim.refl _ _) (by first | assumption | exact Sim.refl _ _) ?_; intro r n hr hb; have ht := order_congr hr (Sim.refl .f64 0); try rw [← frac0] at hr ht)
    go_ret
    exact ⟨_, _, rfl, rfl, by unfold fracF; rw [HQ.out]; assumption, by assumption⟩

theorem E1_t {y : Nat} (h : ge (fracF y) half = true) : E1 y = fop .sub .f64 (fracF y) half := by unfold E1; rw [if_pos h]
theorem E1_f {y : Nat} (h : ge (fracF y) half = false) : E1 y = fracF y := by unfold E1; rw [h]; rfl
theorem E2_t {y : Nat} (h : gt (E1 y) quarter = true) : E2 y = fop .sub .f64 half (E1 y) := by unfold E2; rw [if_pos h]
theorem E2_f {y : Nat} (h : gt (E1 y) quarter = false) : E2 y = E1 y := by unfold E2; rw [h]; rfl
theorem sineF_t {y : Nat} (h : ge (fracF y) half = true) : sineF y = fneg .f64 (res y) := by unfold sineF; rw [if_pos h]
theorem sineF_f {y : Nat} (h : ge (fracF y) half = false) : sineF y = res y := by unfold sineF; rw [h]; rfl
theorem neg64 (k : FloatKind) (b : Nat) : Op.unary .neg (.float k b) = pure (.float k (fneg k b)) := rfl

set_option maxHeartbeats 1000000 in
theorem sineW00 (y : Nat) (w : World) (hf : Fits .f64 y) (h : FinW Ieee.double y) (hb : mv Ieee.double (rung Ieee.double y) < 2 ^ 52 * 2 ^ un) (h1 : ge (fracF y) half = false) (h2 : gt (E1 y) quarter = false) : Calls Try.prog 60 #[.float .f64 y] w (RetF .f64 (sineF y) w) := by
  · have HN := hid (bd_nan (fracF_bd h hb))
    have hneg := neg64
    have e1 := hid (E1_f h1)
    have e3 := hid (sineF_f h1)
    · have e2 := hid (E2_f h2)
      rw [e1.out] at h2
      have t1 : (FloatKind.f64.format.order (fracF y) 4602678819172646912 == some .gt || FloatKind.f64.format.order (fracF y) 4602678819172646912 == some .eq) = false := h1
      have t2 : (FloatKind.f64.format.order (fracF y) 4598175219545276416 == some .gt) = false := h2
      clear h1 h2
      go_enter Try.func60, Try.ntmps60
      go_wp2_with (first | (go_at_call 66; refine (fracW y _ hf h hb).mono ?_; rintro e w' ⟨r, n, rfl, rfl, hr, hb⟩; obtain rfl := sim_eq hr HN.out) | (refine wpList_fsim rfl _ _ _ _ _ rfl rfl .f64 _ _ rfl rfl (by first | with_reducible assumption | exact Sim.refl _ _) (by first | with_reducible assumption | exact Sim.refl _ _) ?_; intro r n hr hb; have ht := order_congr hr (Sim.refl .f64 4598175219545276416)))
      go_loopw [7, 8] (fun p k wr => ∃ (i q n : Nat), i ≤ 8 ∧ k = .float .f64 (kb i) ∧ p = .float .f64 q ∧ Sim .f64 q (polyF (fop .mul .f64 (fop .mul .f64 (fracF y) twoPi) (fop .mul .f64 (fracF y) twoPi)) i) ∧ wr = w.drewN n) (fun _ k _ => bitsS k)
      case atStart => exact ⟨0, one, _, by omega, rfl, rfl, Sim.refl _ _, rfl⟩
      case round =>
        obtain ⟨i, q, n, hi, rfl, rfl, hq, rfl⟩ := hrel
        by_cases hlt : i < 8
        · skip
          have hk : (FloatKind.f64.format.order (kb i) 4607182418800017408 == some .gt || FloatKind.f64.format.order (kb i) 4607182418800017408 == some .eq) = true := kb_ge i hlt
          have HK := hid (kb_nan (i + 1) (by omega))
          have HD := hid (kb_dec i hlt)
          go_wp2_with (refine wpList_fsim rfl _ _ _ _ _ rfl rfl .f64 _ _ rfl rfl (by first | with_reducible assumption | exact Sim.refl _ _) (by first | with_reducible assumption | exact Sim.refl _ _) ?_; intro r n hr hb)
          obtain rfl := sim_eq (show Sim .f64 r (kb (i + 1)) from hr) HK.out
          go_roundw
          case rel => exact ⟨i + 1, _, _, by omega, rfl, rfl, by show Sim _ _ (fop .sub .f64 one (fop .quo .f64 (fop .mul .f64 (fop .mul .f64 (fop .mul .f64 (fracF y) twoPi) (fop .mul .f64 (fracF y) twoPi)) (polyF (fop .mul .f64 (fop .mul .f64 (fracF y) twoPi) (fop .mul .f64 (fracF y) twoPi)) i)) (cK i))); unfold cK; with_reducible assumption, rfl⟩
          case measure => exact HD.out
        · obtain rfl : i = 8 := by omega
          have hk : (FloatKind.f64.format.order (kb 8) 4607182418800017408 == some .gt || FloatKind.f64.format.order (kb 8) 4607182418800017408 == some .eq) = false := kb_end
          go_wp2_with (refine wpList_fsim rfl _ _ _ _ _ rfl rfl .f64 _ _ rfl rfl (by first | with_reducible assumption | exact Sim.refl _ _) (by first | with_reducible assumption | exact Sim.refl _ _) ?_; intro r n hr hb)
          go_ret
          exact ⟨_, _, rfl, rfl, by rw [e3.out]; unfold res Z; rw [e2.out, e1.out]; with_reducible assumption, hb⟩
set_option maxHeartbeats 1000000 in
theorem sineW01 (y : Nat) (w : World) (hf : Fits .f64 y) (h : FinW Ieee.double y) (hb : mv Ieee.double (rung Ieee.double y) < 2 ^ 52 * 2 ^ un) (h1 : ge (fracF y) half = false) (h2 : gt (E1 y) quarter = true) : Calls Try.prog 60 #[.float .f64 y] w (RetF .f64 (sineF y) w) := by
  · have HN := hid (bd_nan (fracF_bd h hb))
    have hneg := neg64
    have e1 := hid (E1_f h1)
    have e3 := hid (sineF_f h1)
    · have e2 := hid (E2_t h2)
      rw [e1.out] at h2
      have t1 : (FloatKind.f64.format.order (fracF y) 4602678819172646912 == some .gt || FloatKind.f64.format.order (fracF y) 4602678819172646912 == some .eq) = false := h1
      have t2 : (FloatKind.f64.format.order (fracF y) 4598175219545276416 == some .gt) = true := h2
      clear h1 h2
      go_enter Try.func60, Try.ntmps60
      go_wp2_with (first | (go_at_call 66; refine (fracW y _ hf h hb).mono ?_; rintro e w' ⟨r, n, rfl, rfl, hr, hb⟩; obtain rfl := sim_eq hr HN.out) | (refine wpList_fsim rfl _ _ _ _ _ rfl rfl .f64 _ _ rfl rfl (by first | with_reducible assumption | exact Sim.refl _ _) (by first | with_reducible assumption | exact Sim.refl _ _) ?_; intro r n hr hb; have ht := order_congr hr (Sim.refl .f64 4598175219545276416)))
      go_loopw [7, 8] (fun p k wr => ∃ (i q n : Nat), i ≤ 8 ∧ k = .float .f64 (kb i) ∧ p = .float .f64 q ∧ Sim .f64 q (polyF (fop .mul .f64 (fop .mul .f64 (fop .sub .f64 half (fracF y)) twoPi) (fop .mul .f64 (fop .sub .f64 half (fracF y)) twoPi)) i) ∧ wr = w.drewN n) (fun _ k _ => bitsS k)
      case atStart => exact ⟨0, one, _, by omega, rfl, rfl, Sim.refl _ _, rfl⟩
      case round =>
        obtain ⟨i, q, n, hi, rfl, rfl, hq, rfl⟩ := hrel
        by_cases hlt : i < 8
        · skip
          have hk : (FloatKind.f64.format.order (kb i) 4607182418800017408 == some .gt || FloatKind.f64.format.order (kb i) 4607182418800017408 == some .eq) = true := kb_ge i hlt
          have HK := hid (kb_nan (i + 1) (by omega))
          have HD := hid (kb_dec i hlt)
          go_wp2_with (refine wpList_fsim rfl _ _ _ _ _ rfl rfl .f64 _ _ rfl rfl (by first | with_reducible assumption | exact Sim.refl _ _) (by first | with_reducible assumption | exact Sim.refl _ _) ?_; intro r n hr hb)
          obtain rfl := sim_eq (show Sim .f64 r (kb (i + 1)) from hr) HK.out
          go_roundw
          case rel => exact ⟨i + 1, _, _, by omega, rfl, rfl, by show Sim _ _ (fop .sub .f64 one (fop .quo .f64 (fop .mul .f64 (fop .mul .f64 (fop .mul .f64 (fop .sub .f64 half (fracF y)) twoPi) (fop .mul .f64 (fop .sub .f64 half (fracF y)) twoPi)) (polyF (fop .mul .f64 (fop .mul .f64 (fop .sub .f64 half (fracF y)) twoPi) (fop .mul .f64 (fop .sub .f64 half (fracF y)) twoPi)) i)) (cK i))); unfold cK; with_reducible assumption, rfl⟩
          case measure => exact HD.out
        · obtain rfl : i = 8 := by omega
          have hk : (FloatKind.f64.format.order (kb 8) 4607182418800017408 == some .gt || FloatKind.f64.format.order (kb 8) 4607182418800017408 == some .eq) = false := kb_end
          go_wp2_with (refine wpList_fsim rfl _ _ _ _ _ rfl rfl .f64 _ _ rfl rfl (by first | with_reducible assumption | exact Sim.refl _ _) (by first | with_reducible assumption | exact Sim.refl _ _) ?_; intro r n hr hb)
          go_ret
          exact ⟨_, _, rfl, rfl, by rw [e3.out]; unfold res Z; rw [e2.out, e1.out]; with_reducible assumption, hb⟩
set_option maxHeartbeats 1000000 in
theorem sineW10 (y : Nat) (w : World) (hf : Fits .f64 y) (h : FinW Ieee.double y) (hb : mv Ieee.double (rung Ieee.double y) < 2 ^ 52 * 2 ^ un) (h1 : ge (fracF y) half = true) (h2 : gt (E1 y) quarter = false) : Calls Try.prog 60 #[.float .f64 y] w (RetF .f64 (sineF y) w) := by
  · have HN := hid (bd_nan (fracF_bd h hb))
    have hneg := neg64
    have e1 := hid (E1_t h1)
    have e3 := hid (sineF_t h1)
    · have e2 := hid (E2_f h2)
      rw [e1.out] at h2
      have t1 : (FloatKind.f64.format.order (fracF y) 4602678819172646912 == some .gt || FloatKind.f64.format.order (fracF y) 4602678819172646912 == some .eq) = true := h1
      have t2 : (FloatKind.f64.format.order (fop .sub .f64 (fracF y) half) 4598175219545276416 == some .gt) = false := h2
      clear h1 h2
      go_enter Try.func60, Try.ntmps60
      go_wp2_with (first | (go_at_call 66; refine (fracW y _ hf h hb).mono ?_; rintro e w' ⟨r, n, rfl, rfl, hr, hb⟩; obtain rfl := sim_eq hr HN.out) | (refine wpList_fsim rfl _ _ _ _ _ rfl rfl .f64 _ _ rfl rfl (by first | with_reducible assumption | exact Sim.refl _ _) (by first | with_reducible assumption | exact Sim.refl _ _) ?_; intro r n hr hb; have ht := order_congr hr (Sim.refl .f64 4598175219545276416)))
      go_loopw [7, 8] (fun p k wr => ∃ (i q n : Nat), i ≤ 8 ∧ k = .float .f64 (kb i) ∧ p = .float .f64 q ∧ Sim .f64 q (polyF (fop .mul .f64 (fop .mul .f64 (fop .sub .f64 (fracF y) half) twoPi) (fop .mul .f64 (fop .sub .f64 (fracF y) half) twoPi)) i) ∧ wr = w.drewN n) (fun _ k _ => bitsS k)
      case atStart => exact ⟨0, one, _, by omega, rfl, rfl, Sim.refl _ _, rfl⟩
      case round =>
        obtain ⟨i, q, n, hi, rfl, rfl, hq, rfl⟩ := hrel
        by_cases hlt : i < 8
        · skip
          have hk : (FloatKind.f64.format.order (kb i) 4607182418800017408 == some .gt || FloatKind.f64.format.order (kb i) 4607182418800017408 == some .eq) = true := kb_ge i hlt
          have HK := hid (kb_nan (i + 1) (by omega))
          have HD := hid (kb_dec i hlt)
          go_wp2_with (refine wpList_fsim rfl _ _ _ _ _ rfl rfl .f64 _ _ rfl rfl (by first | with_reducible assumption | exact Sim.refl _ _) (by first | with_reducible assumption | exact Sim.refl _ _) ?_; intro r n hr hb)
          obtain rfl := sim_eq (show Sim .f64 r (kb (i + 1)) from hr) HK.out
          go_roundw
          case rel => exact ⟨i + 1, _, _, by omega, rfl, rfl, by show Sim _ _ (fop .sub .f64 one (fop .quo .f64 (fop .mul .f64 (fop .mul .f64 (fop .mul .f64 (fop .sub .f64 (fracF y) half) twoPi) (fop .mul .f64 (fop .sub .f64 (fracF y) half) twoPi)) (polyF (fop .mul .f64 (fop .mul .f64 (fop .sub .f64 (fracF y) half) twoPi) (fop .mul .f64 (fop .sub .f64 (fracF y) half) twoPi)) i)) (cK i))); unfold cK; with_reducible assumption, rfl⟩
          case measure => exact HD.out
        · obtain rfl : i = 8 := by omega
          have hk : (FloatKind.f64.format.order (kb 8) 4607182418800017408 == some .gt || FloatKind.f64.format.order (kb 8) 4607182418800017408 == some .eq) = false := kb_end
          go_wp2_with (refine wpList_fsim rfl _ _ _ _ _ rfl rfl .f64 _ _ rfl rfl (by first | with_reducible assumption | exact Sim.refl _ _) (by first | with_reducible assumption | exact Sim.refl _ _) ?_; intro r n hr hb)
          go_ret
          exact ⟨_, _, rfl, rfl, by rw [e3.out]; refine sim_neg hb (fits_fop ..) ?_; unfold res Z; rw [e2.out, e1.out]; with_reducible assumption, fits_neg hb⟩
set_option maxHeartbeats 1000000 in
theorem sineW11 (y : Nat) (w : World) (hf : Fits .f64 y) (h : FinW Ieee.double y) (hb : mv Ieee.double (rung Ieee.double y) < 2 ^ 52 * 2 ^ un) (h1 : ge (fracF y) half = true) (h2 : gt (E1 y) quarter = true) : Calls Try.prog 60 #[.float .f64 y] w (RetF .f64 (sineF y) w) := by
  · have HN := hid (bd_nan (fracF_bd h hb))
    have hneg := neg64
    have e1 := hid (E1_t h1)
    have e3 := hid (sineF_t h1)
    · have e2 := hid (E2_t h2)
      rw [e1.out] at h2
      have t1 : (FloatKind.f64.format.order (fracF y) 4602678819172646912 == some .gt || FloatKind.f64.format.order (fracF y) 4602678819172646912 == some .eq) = true := h1
      have t2 : (FloatKind.f64.format.order (fop .sub .f64 (fracF y) half) 4598175219545276416 == some .gt) = true := h2
      clear h1 h2
      go_enter Try.func60, Try.ntmps60
      go_wp2_with (first | (go_at_call 66; refine (fracW y _ hf h hb).mono ?_; rintro e w' ⟨r, n, rfl, rfl, hr, hb⟩; obtain rfl := sim_eq hr HN.out) | (refine wpList_fsim rfl _ _ _ _ _ rfl rfl .f64 _ _ rfl rfl (by first | with_reducible assumption | exact Sim.refl _ _) (by first | with_reducible assumption | exact Sim.refl _ _) ?_; intro r n hr hb; have ht := order_congr hr (Sim.refl .f64 4598175219545276416)))
      go_loopw [7, 8] (fun p k wr => ∃ (i q n : Nat), i ≤ 8 ∧ k = .float .f64 (kb i) ∧ p = .float .f64 q ∧ Sim .f64 q (polyF (fop .mul .f64 (fop .mul .f64 (fop .sub .f64 half (fop .sub .f64 (fracF y) half)) twoPi) (fop .mul .f64 (fop .sub .f64 half (fop .sub .f64 (fracF y) half)) twoPi)) i) ∧ wr = w.drewN n) (fun _ k _ => bitsS k)
      case atStart => exact ⟨0, one, _, by omega, rfl, rfl, Sim.refl _ _, rfl⟩
      case round =>
        obtain ⟨i, q, n, hi, rfl, rfl, hq, rfl⟩ := hrel
        by_cases hlt : i < 8
        · skip
          have hk : (FloatKind.f64.format.order (kb i) 4607182418800017408 == some .gt || FloatKind.f64.format.order (kb i) 4607182418800017408 == some .eq) = true := kb_ge i hlt
          have HK := hid (kb_nan (i + 1) (by omega))
          have HD := hid (kb_dec i hlt)
          go_wp2_with (refine wpList_fsim rfl _ _ _ _ _ rfl rfl .f64 _ _ rfl rfl (by first | with_reducible assumption | exact Sim.refl _ _) (by first | with_reducible assumption | exact Sim.refl _ _) ?_; intro r n hr hb)
          obtain rfl := sim_eq (show Sim .f64 r (kb (i + 1)) from hr) HK.out
          go_roundw
          case rel => exact ⟨i + 1, _, _, by omega, rfl, rfl, by show Sim _ _ (fop .sub .f64 one (fop .quo .f64 (fop .mul .f64 (fop .mul .f64 (fop .mul .f64 (fop .sub .f64 half (fop .sub .f64 (fracF y) half)) twoPi) (fop .mul .f64 (fop .sub .f64 half (fop .sub .f64 (fracF y) half)) twoPi)) (polyF (fop .mul .f64 (fop .mul .f64 (fop .sub .f64 half (fop .sub .f64 (fracF y) half)) twoPi) (fop .mul .f64 (fop .sub .f64 half (fop .sub .f64 (fracF y) half)) twoPi)) i)) (cK i))); unfold cK; with_reducible assumption, rfl⟩
          case measure => exact HD.out
        · obtain rfl : i = 8 := by omega
          have hk : (FloatKind.f64.format.order (kb 8) 4607182418800017408 == some .gt || FloatKind.f64.format.order (kb 8) 4607182418800017408 == some .eq) = false := kb_end
          go_wp2_with (refine wpList_fsim rfl _ _ _ _ _ rfl rfl .f64 _ _ rfl rfl (by first | with_reducible assumption | exact Sim.refl _ _) (by first | with_reducible assumption | exact Sim.refl _ _) ?_; intro r n hr hb)
          go_ret
          exact ⟨_, _, rfl, rfl, by rw [e3.out]; refine sim_neg hb (fits_fop ..) ?_; unfold res Z; rw [e2.out, e1.out]; with_reducible assumption, fits_neg hb⟩
theorem sineW (y : Nat) (w : World) (hf : Fits .f64 y) (h : FinW Ieee.double y) (hb : mv Ieee.double (rung Ieee.double y) < 2 ^ 52 * 2 ^ un) : Calls Try.prog 60 #[.float .f64 y] w (RetF .f64 (sineF y) w) := by
  cases h1 : ge (fracF y) half <;> cases h2 : gt (E1 y) quarter
  · exact sineW00 y w hf h hb h1 h2
  · exact sineW01 y w hf h hb h1 h2
  · exact sineW10 y w hf h hb h1 h2
  · exact sineW11 y w hf h hb h1 h2
end TryWalk
end Go.Proofs.Ytlabbakmlanfgaa
