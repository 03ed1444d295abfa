/- The logarithm's walks, both ways. No condition. -/
import Derived.Test.YtlabbakmlanfgaaWbase
import Derived.Test.YtlabbakmlanfgaaFlog
namespace Go.Proofs.Ytlabbakmlanfgaa
open Go.RowKit Flo Iee
set_option linter.unusedVariables false
namespace TryWalk
def bitsV : Value → Nat | .float _ b => b | _ => 0
def lkM (v : Value) : Nat := (((List.range 14).find? fun i => lk i == bitsV v).map (13 - ·)).getD 0
theorem lkM_dec : ∀ i, i < 13 → lkM (.float .f64 (lk (i + 1))) < lkM (.float .f64 (lk i)) := by decide +kernel
theorem ofI_nan (n : Int) (h : n.natAbs < 2 ^ 53) : NaN .f64 (floatOfInt .f64 n) = false := nan_of_fin (k := .f64) (ofI n h).1
theorem isInfW (y : Nat) (w : World) (b : Bool) (h : (FloatKind.f64.format.order y 9218868437227405311 == some .gt) = b) : Calls Try.prog 89 #[.float .f64 y, .int .i64 1] w fun e w' => e = .returned (.bool b) ∧ w = w' := by
  go_enter Try.func89, Try.ntmps89
  go_wp2
  go_ret
  exact ⟨rfl, rfl⟩
theorem ofI_zero : floatOfInt .f64 0 = 0 := by decide +kernel
set_option maxHeartbeats 1000000 in
theorem natLogW (y : Nat) (w : World) (h1 : 3936146074321813504 ≤ y) (h2 : y < 5183643171103440896) : Calls Try.prog 57 #[.float .f64 y] w (RetF .f64 (logF y) w) := by
  go_enter Try.func57, Try.ntmps57
  go_wp2_with fail
  go_loopw [0, 3] (fun x e wr => ∃ (b : Nat) (E : Int) (n : Nat), x = .float .f64 b ∧ e = .float .f64 (floatOfInt .f64 E) ∧ Hid ((b : Int) = (y : Int) - E * 4503599627370496) ∧ 0 ≤ E ∧ (E = 0 ∨ 4604930618986332160 ≤ b) ∧ b ≤ y ∧ wr = w.drewN n) (fun x _ _ => bitsV x)
  case atStart => exact ⟨y, 0, 0, rfl, by rw [ofI_zero], hid (by simp), by omega, .inl rfl, by omega, rfl⟩
  case round =>
    obtain ⟨b, E, n, rfl, rfl, hbe, hE0, hE, hby, rfl⟩ := hrel
    have hE1 : E < 200 := by have := hbe.out; omega
    have hbi : b < 9218868437227405312 := by omega
    by_cases ht : 4609434218613702656 ≤ b
    · have t1 : (FloatKind.f64.format.order b 4609434218613702656 == some .gt || FloatKind.f64.format.order b 4609434218613702656 == some .eq) = true := by rw [pos_ge hbi (by decide)]; exact decide_eq_true ht
      obtain ⟨c, hc⟩ : ∃ c : Nat, Hid (b = c + 4503599627370496) := ⟨b - 4503599627370496, hid (by omega)⟩
      have hcb : c < b := by have := hc.out; omega
      have hcc : 4604930618986332160 ≤ c := by have := hc.out; omega
      have HQ := hid (show fop .quo .f64 b two = c by rw [half_exact (by omega) hbi]; have := hc.out; omega)
      have HN := hid (nan_of_fin (k := .f64) (pos_word (b := c) (by omega)).1)
      have HA := hid (up1 hE0 hE1)
      have HNA := hid (ofI_nan (E + 1) (by omega))
      go_wp2_with (first | (refine wpList_fsim rfl .quo _ _ _ _ rfl rfl .f64 _ _ rfl rfl (by first | with_reducible assumption | exact Sim.refl _ _) (by first | with_reducible assumption | exact Sim.refl _ _) ?_; intro r n hr hb; rw [HQ.out] at hr; have hx := (sim_eq hr HN.out).symm; subst hx) | (refine wpList_fsim rfl .add _ _ _ _ rfl rfl .f64 _ _ rfl rfl (by first | with_reducible assumption | exact Sim.refl _ _) (by first | with_reducible assumption | exact Sim.refl _ _) ?_; intro r n hr hb; rw [HA.out] at hr; have hx := (sim_eq hr HNA.out).symm; subst hx))
      go_roundw
      case rel => exact ⟨c, E + 1, _, rfl, rfl, hid (by have := hbe.out; have := hc.out; omega), by omega, .inr hcc, by omega, rfl⟩
      case measure => simp [bitsV]; omega
    · have t1 : (FloatKind.f64.format.order b 4609434218613702656 == some .gt || FloatKind.f64.format.order b 4609434218613702656 == some .eq) = false := by rw [pos_ge hbi (by decide)]; exact decide_eq_false ht
      have hb0 : 3936146074321813504 ≤ b := by have := hbe.out; omega
      go_wp2_with fail
      go_loopw [0, 3] (fun x e wr => ∃ (b : Nat) (E : Int) (n : Nat), x = .float .f64 b ∧ e = .float .f64 (floatOfInt .f64 E) ∧ Hid ((b : Int) = (y : Int) - E * 4503599627370496) ∧ (E ≤ 0 ∨ 4604930618986332160 ≤ b) ∧ b < 4609434218613702656 ∧ 3936146074321813504 ≤ b ∧ wr = w.drewN n) (fun x _ _ => 4609434218613702656 - bitsV x)
      case atStart => exact ⟨b, E, _, rfl, rfl, hbe, by omega, by omega, hb0, rfl⟩
      case round =>
        clear t1 hbe hE0 hE hby hE1 hbi ht hb0
        obtain ⟨b, E, n, rfl, rfl, hbe, hE, hbt, hb0, rfl⟩ := hrel
        have hE1 : -200 < E := by have := hbe.out; omega
        have hE2 : E < 200 := by have := hbe.out; omega
        have hbi : b < 9218868437227405312 := by omega
        by_cases ht : b < 4604930618986332160
        · have t1 : (FloatKind.f64.format.order b 4604930618986332160 == some .lt) = true := by rw [pos_lt hbi (by decide)]; exact decide_eq_true ht
          obtain ⟨c, hc⟩ : ∃ c : Nat, Hid (c = b + 4503599627370496) := ⟨b + 4503599627370496, hid rfl⟩
          have hcb : b < c := by have := hc.out; omega
          have hct : c < 4609434218613702656 := by have := hc.out; omega
          have hc0 : 3936146074321813504 ≤ c := by omega
          have HQ := hid (show fop .mul .f64 b two = c by rw [dbl_exact (by omega) (by omega)]; exact hc.out.symm)
          have HN := hid (nan_of_fin (k := .f64) (pos_word (b := c) (by omega)).1)
          have HA := hid (down1 (n := E) (by omega) (by omega))
          have HNA := hid (ofI_nan (E - 1) (by omega))
          go_wp2_with (first | (refine wpList_fsim rfl .mul _ _ _ _ rfl rfl .f64 _ _ rfl rfl (by first | with_reducible assumption | exact Sim.refl _ _) (by first | with_reducible assumption | exact Sim.refl _ _) ?_; intro r n hr hb; rw [HQ.out] at hr; have hx := (sim_eq hr HN.out).symm; subst hx) | (refine wpList_fsim rfl .sub _ _ _ _ rfl rfl .f64 _ _ rfl rfl (by first | with_reducible assumption | exact Sim.refl _ _) (by first | with_reducible assumption | exact Sim.refl _ _) ?_; intro r n hr hb; rw [HA.out] at hr; have hx := (sim_eq hr HNA.out).symm; subst hx))
          go_roundw
          case rel => exact ⟨c, E - 1, _, rfl, rfl, hid (by have := hbe.out; have := hc.out; omega), .inl (by omega), hct, hc0, rfl⟩
          case measure => simp [bitsV]; omega
        · have t1 : (FloatKind.f64.format.order b 4604930618986332160 == some .lt) = false := by rw [pos_lt hbi (by decide)]; exact decide_eq_false ht
          have HE := hid (lE_of (y := y) (b := b) (E := E) hbe.out (by have e : T075 = 4604930618986332160 := rfl; omega) hbt)
          go_wp2_with (refine wpList_fsim rfl _ _ _ _ _ rfl rfl .f64 _ _ rfl rfl (by first | with_reducible assumption | exact Sim.refl _ _) (by first | with_reducible assumption | exact Sim.refl _ _) ?_; intro r n hr hb)
          go_loopw [6, 7] (fun qq k wr => ∃ (i q n : Nat), i ≤ 13 ∧ k = .float .f64 (lk i) ∧ qq = .float .f64 q ∧ Sim .f64 q (lq (fop .mul .f64 (fop .quo .f64 (fop .sub .f64 b one) (fop .add .f64 b one)) (fop .quo .f64 (fop .sub .f64 b one) (fop .add .f64 b one))) i) ∧ wr = w.drewN n) (fun _ k _ => lkM k)
          case atStart => exact ⟨0, 0, _, by omega, rfl, rfl, Sim.refl _ _, rfl⟩
          case round =>
            obtain ⟨i, q, n, hi, rfl, rfl, hq, rfl⟩ := hrel
            by_cases hlt : i < 13
            · skip
              have hk := lk_ge i hlt
              have HK := hid (lk_nan (i + 1) (by omega))
              have HD := hid (lkM_dec i hlt)
              go_wp2_with (refine wpList_fsim rfl _ _ _ _ _ rfl rfl .f64 _ _ rfl rfl (by first | with_reducible assumption | exact Sim.refl _ _) (by first | with_reducible assumption | exact Sim.refl _ _) ?_; intro r n hr hb)
              obtain rfl := sim_eq (show Sim .f64 r (lk (i + 1)) from hr) HK.out
              go_roundw
              case rel => exact ⟨i + 1, _, _, by omega, rfl, rfl, by show Sim _ _ (fop .add .f64 (fop .quo .f64 one (lk i)) (fop .mul .f64 (fop .mul .f64 (fop .quo .f64 (fop .sub .f64 b one) (fop .add .f64 b one)) (fop .quo .f64 (fop .sub .f64 b one) (fop .add .f64 b one))) (lq (fop .mul .f64 (fop .quo .f64 (fop .sub .f64 b one) (fop .add .f64 b one)) (fop .quo .f64 (fop .sub .f64 b one) (fop .add .f64 b one))) i))); with_reducible assumption, rfl⟩
              case measure => exact HD.out
            · obtain rfl : i = 13 := by omega
              have hk := lk_end
              go_wp2_with (refine wpList_fsim rfl _ _ _ _ _ rfl rfl .f64 _ _ rfl rfl (by first | with_reducible assumption | exact Sim.refl _ _) (by first | with_reducible assumption | exact Sim.refl _ _) ?_; intro r n hr hb)
              go_ret
              exact ⟨_, _, rfl, rfl, by unfold logF s_; rw [← HE.out.1, ← HE.out.2]; with_reducible assumption, hb⟩
set_option maxHeartbeats 1000000 in
theorem spLogW (y : Nat) (w : World) (h1 : 3936146074321813504 ≤ y) (h2 : y < 5183643171103440896) : Calls Try.prog 83 #[.float .f64 y] w (RetF .f64 (logF y) w) := by
  have hy : y < 9218868437227405312 := by omega
  have s1 := order_self_neq .f64 y
  rw [nan_of_fin (k := .f64) (pos_word hy).1] at s1
  have s2 : (FloatKind.f64.format.order y 0 == some .lt) = false := by rw [pos_lt hy (by decide)]; simp
  have s3 : (FloatKind.f64.format.order y 0 == some .eq) = false := by
    rw [order_zero (k := .f64) (pos_word hy).1]
    apply decide_eq_false
    have e : rung FloatKind.f64.format y = y := (pos_word hy).2.1
    rw [e]; omega
  have s4 : (FloatKind.f64.format.order y 9218868437227405311 == some .gt) = false := by
    rw [pos_gt hy (by decide)]; apply decide_eq_false; omega
  go_enter Try.func83, Try.ntmps83
  go_wp2_with (go_at_call 89; refine (isInfW _ _ _ s4).mono ?_; rintro e w' ⟨rfl, rfl⟩)
  go_loopw [0, 3] (fun x e wr => ∃ (b : Nat) (E : Int) (n : Nat), x = .float .f64 b ∧ e = .int .i64 E ∧ Hid ((b : Int) = (y : Int) - E * 4503599627370496) ∧ 0 ≤ E ∧ (E = 0 ∨ 4604930618986332160 ≤ b) ∧ b ≤ y ∧ wr = w.drewN n) (fun x _ _ => bitsV x)
  case atStart => exact ⟨y, 0, 0, rfl, rfl, hid (by simp), by omega, .inl rfl, by omega, rfl⟩
  case round =>
    obtain ⟨b, E, n, rfl, rfl, hbe, hE0, hE, hby, rfl⟩ := hrel
    have hE1 : E < 200 := by have := hbe.out; omega
    have hbi : b < 9218868437227405312 := by omega
    by_cases ht : 4609434218613702656 ≤ b
    · have t1 : (FloatKind.f64.format.order b 4609434218613702656 == some .gt || FloatKind.f64.format.order b 4609434218613702656 == some .eq) = true := by rw [pos_ge hbi (by decide)]; exact decide_eq_true ht
      obtain ⟨c, hc⟩ : ∃ c : Nat, Hid (b = c + 4503599627370496) := ⟨b - 4503599627370496, hid (by omega)⟩
      have hcb : c < b := by have := hc.out; omega
      have hcc : 4604930618986332160 ≤ c := by have := hc.out; omega
      have HQ := hid (show fop .quo .f64 b two = c by rw [half_exact (by omega) hbi]; have := hc.out; omega)
      have HN := hid (nan_of_fin (k := .f64) (pos_word (b := c) (by omega)).1)
      go_wp2_with (refine wpList_fsim rfl .quo _ _ _ _ rfl rfl .f64 _ _ rfl rfl (by first | with_reducible assumption | exact Sim.refl _ _) (by first | with_reducible assumption | exact Sim.refl _ _) ?_; intro r n hr hb; rw [HQ.out] at hr; have hx := (sim_eq hr HN.out).symm; subst hx)
      go_roundw
      case rel => exact ⟨c, E + 1, _, rfl, rfl, hid (by have := hbe.out; have := hc.out; omega), by omega, .inr hcc, by omega, rfl⟩
      case measure => simp [bitsV]; omega
    · have t1 : (FloatKind.f64.format.order b 4609434218613702656 == some .gt || FloatKind.f64.format.order b 4609434218613702656 == some .eq) = false := by rw [pos_ge hbi (by decide)]; exact decide_eq_false ht
      have hb0 : 3936146074321813504 ≤ b := by have := hbe.out; omega
      go_wp2_with fail
      go_loopw [0, 3] (fun x e wr => ∃ (b : Nat) (E : Int) (n : Nat), x = .float .f64 b ∧ e = .int .i64 E ∧ Hid ((b : Int) = (y : Int) - E * 4503599627370496) ∧ (E ≤ 0 ∨ 4604930618986332160 ≤ b) ∧ b < 4609434218613702656 ∧ 3936146074321813504 ≤ b ∧ wr = w.drewN n) (fun x _ _ => 4609434218613702656 - bitsV x)
      case atStart => exact ⟨b, E, _, rfl, rfl, hbe, by omega, by omega, hb0, rfl⟩
      case round =>
        clear t1 hbe hE0 hE hby hE1 hbi ht hb0
        obtain ⟨b, E, n, rfl, rfl, hbe, hE, hbt, hb0, rfl⟩ := hrel
        have hE1 : -200 < E := by have := hbe.out; omega
        have hE2 : E < 200 := by have := hbe.out; omega
        have hbi : b < 9218868437227405312 := by omega
        by_cases ht : b < 4604930618986332160
        · have t1 : (FloatKind.f64.format.order b 4604930618986332160 == some .lt) = true := by rw [pos_lt hbi (by decide)]; exact decide_eq_true ht
          obtain ⟨c, hc⟩ : ∃ c : Nat, Hid (c = b + 4503599627370496) := ⟨b + 4503599627370496, hid rfl⟩
          have hcb : b < c := by have := hc.out; omega
          have hct : c < 4609434218613702656 := by have := hc.out; omega
          have hc0 : 3936146074321813504 ≤ c := by omega
          have HQ := hid (show fop .mul .f64 b two = c by rw [dbl_exact (by omega) (by omega)]; exact hc.out.symm)
          have HN := hid (nan_of_fin (k := .f64) (pos_word (b := c) (by omega)).1)
          go_wp2_with (refine wpList_fsim rfl .mul _ _ _ _ rfl rfl .f64 _ _ rfl rfl (by first | with_reducible assumption | exact Sim.refl _ _) (by first | with_reducible assumption | exact Sim.refl _ _) ?_; intro r n hr hb; rw [HQ.out] at hr; have hx := (sim_eq hr HN.out).symm; subst hx)
          go_roundw
          case rel => exact ⟨c, E - 1, _, rfl, rfl, hid (by have := hbe.out; have := hc.out; omega), .inl (by omega), hct, hc0, rfl⟩
          case measure => simp [bitsV]; omega
        · have t1 : (FloatKind.f64.format.order b 4604930618986332160 == some .lt) = false := by rw [pos_lt hbi (by decide)]; exact decide_eq_false ht
          have HE := hid (lE_of (y := y) (b := b) (E := E) hbe.out (by have e : T075 = 4604930618986332160 := rfl; omega) hbt)
          go_wp2_with (refine wpList_fsim rfl _ _ _ _ _ rfl rfl .f64 _ _ rfl rfl (by first | with_reducible assumption | exact Sim.refl _ _) (by first | with_reducible assumption | exact Sim.refl _ _) ?_; intro r n hr hb)
          go_loopw [6, 7] (fun qq k wr => ∃ (i q n : Nat) (c : Int), i ≤ 13 ∧ k = .int .i64 c ∧ Hid (c = 25 - 2 * (i : Int)) ∧ qq = .float .f64 q ∧ Sim .f64 q (lq (fop .mul .f64 (fop .quo .f64 (fop .sub .f64 b one) (fop .add .f64 b one)) (fop .quo .f64 (fop .sub .f64 b one) (fop .add .f64 b one))) i) ∧ wr = w.drewN n) (fun _ k _ => (intOf k + 1).toNat)
          case atStart => exact ⟨0, 0, _, 25, by omega, rfl, hid rfl, rfl, Sim.refl _ _, rfl⟩
          case round =>
            obtain ⟨i, q, n, c, hi, rfl, hcc, rfl, hq, rfl⟩ := hrel
            by_cases hlt : i < 13
            · skip
              have hc1 : 1 ≤ c := by have := hcc.out; omega
              have hc2 : c ≤ 25 := by have := hcc.out; omega
              have HI := hid (show floatOfInt .f64 c = lk i by rw [hcc.out]; exact lk_int i hlt)
              go_wp2_with (refine wpList_fsim rfl _ _ _ _ _ rfl rfl .f64 _ _ rfl rfl (by first | with_reducible assumption | exact Sim.refl _ _) (by first | with_reducible assumption | exact Sim.refl _ _) ?_; intro r n hr hb)
              go_roundw
              case rel => exact ⟨i + 1, _, _, c - 2, by omega, rfl, hid (by have := hcc.out; omega), rfl, by show Sim _ _ (fop .add .f64 (fop .quo .f64 one (lk i)) (fop .mul .f64 (fop .mul .f64 (fop .quo .f64 (fop .sub .f64 b one) (fop .add .f64 b one)) (fop .quo .f64 (fop .sub .f64 b one) (fop .add .f64 b one))) (lq (fop .mul .f64 (fop .quo .f64 (fop .sub .f64 b one) (fop .add .f64 b one)) (fop .quo .f64 (fop .sub .f64 b one) (fop .add .f64 b one))) i))); rw [← HI.out]; with_reducible assumption, rfl⟩
              case measure => simp [intOf]; omega
            · obtain rfl : i = 13 := by omega
              have hc1 : c < 1 := by have := hcc.out; omega
              have hc2 : -2 ≤ c := by have := hcc.out; omega
              go_wp2_with (refine wpList_fsim rfl _ _ _ _ _ rfl rfl .f64 _ _ rfl rfl (by first | with_reducible assumption | exact Sim.refl _ _) (by first | with_reducible assumption | exact Sim.refl _ _) ?_; intro r n hr hb)
              go_ret
              exact ⟨_, _, rfl, rfl, by unfold logF s_; rw [← HE.out.1, ← HE.out.2]; with_reducible assumption, hb⟩
end TryWalk
end Go.Proofs.Ytlabbakmlanfgaa
