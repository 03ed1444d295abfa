/- The law on phasors: what the kernel reckoned, said for the walk. No condition. -/
import Derived.Test.YtlabbakmlanfgaaWc1
namespace Go.Proofs.Ytlabbakmlanfgaa
open Go.RowKit Flo Iee Sl Kf
set_option linter.unusedVariables false
namespace TryWalk
theorem yT_a (u : Nat) : fop .quo .f64 (floatOfInt .f64 ((u : Int) - 128)) 4634204016564240384 = yT (u + 128) := by
  unfold yT
  have : (((u + 128 : Nat) : Int) - 256) = (u : Int) - 128 := by omega
  rw [this]
theorem yT_ab (u v : Nat) : fop .quo .f64 (floatOfInt .f64 ((u : Int) - 128 + ((v : Int) - 128))) 4634204016564240384 = yT (u + v) := by
  unfold yT
  have : (((u + v : Nat) : Int) - 256) = (u : Int) - 128 + ((v : Int) - 128) := by omega
  rw [this]
theorem yT_ok {i : Nat} (hi : i < 511) : NaN .f64 (yT i) = false ∧ Fits .f64 (yT i) := by
  have h := all_rng okF_all hi
  unfold okF at h
  obtain ⟨h1, h2⟩ := kand_t h
  obtain ⟨h3, h4⟩ := kand_t h1
  exact ⟨nan_of_fin (fin_iff.1 h3), fits_fop ..⟩
theorem phW {i j : Nat} (hi : i < 511) (hj : i % 64 = j) (w : World) : Calls Try.prog 36 #[.float .f64 (yT i)] w (RetC (PC j, PS j) w) := by
  have h := imPhasor (yT i) w (yT_ok hi).2
  rw [ph_val hi, hj] at h
  exact h
theorem mU_k (a b c d : Nat) : mU a b c d = kmU a b c d := by
  unfold mU kmU
  rw [mul64, mul64, sub64]
theorem mV_k (a b c d : Nat) : mV a b c d = kmV a b c d := by
  unfold mV kmV
  rw [mul64, mul64, add64]
theorem pW_k (a b : Nat) : pW a b = kadd64 (kmul64 a a) (kmul64 b b) := by
  unfold pW
  rw [mul64, mul64, add64]
structure NearOk (u r : Nat) : Prop where
  ov : over .f64 u .f32 = false
  n32 : NaN .f32 (fconv .f64 u .f32) = false
  n64 : NaN .f64 (fconv .f32 (fconv .f64 u .f32) .f64) = false
  le : (FloatKind.f64.format.order (gapF (fconv .f32 (fconv .f64 u .f32) .f64) r) 4547007122018943789 == some .lt || FloatKind.f64.format.order (gapF (fconv .f32 (fconv .f64 u .f32) .f64) r) 4547007122018943789 == some .eq) = true
  gt : (FloatKind.f64.format.order (gapF (fconv .f32 (fconv .f64 u .f32) .f64) r) 4547007122018943789 == some .gt) = false
theorem near_ok {u r : Nat} (h : okNear u r = true) : NearOk u r := by
  unfold okNear at h
  obtain ⟨h1, h2⟩ := kand_t h
  obtain ⟨h3, h4⟩ := kand_t h1
  obtain ⟨e1, e2⟩ := kdn_conv h3
  have e3 := kup_conv h4
  obtain ⟨h5, -⟩ := kand_t h4
  have n := nan32 h5
  refine ⟨e2, by rw [e1]; exact n, by rw [e1]; exact (fconv_up_sgn n).1, ?_, ?_⟩
  · rw [e1, e3, kgap_eq]
    exact kge_le kc64 h2
  · rw [e1, e3, kgap_eq]
    exact kge_gt kc64 h2
theorem mul_ok {j k r : Nat} (hj : j < 64) (hk : k < 64) (hr : (j + k) % 64 = r) : NearOk (mU (UC j) (US j) (UC k) (US k)) (UC r) ∧ NearOk (mV (UC j) (US j) (UC k) (US k)) (US r) := by
  have h := all_rng okM_all hj
  unfold okMs at h
  have h2 := all_rng h hk
  unfold okM at h2
  obtain ⟨h3, h4⟩ := kand_t h2
  rw [mU_k, mV_k]
  subst hr
  exact ⟨near_ok h3, near_ok h4⟩
theorem pow_ok {j : Nat} (hj : j < 64) : NearOk (pW (UC j) (US j)) one := by
  have h := all_rng okPw_all hj
  unfold okPw at h
  rw [pW_k]
  exact near_ok h
theorem ang_ok {j : Nat} (hj : j < 64) (hc : Fits .f32 (PC j)) (hs : Fits .f32 (PS j)) : (∀ w, Calls Try.prog 41 #[.float .f32 (PS j), .float .f32 (PC j)] w (RetF .f32 (AT j) w)) ∧ NaN .f32 (AT j) = false ∧ kuOk (AT j) = true := by
  obtain ⟨n1, n2, e1, e2, k1, k2⟩ := pc_up j hj
  have h := all_rng okA_all hj
  unfold okA at h
  obtain ⟨h1, h2⟩ := kand_t h
  obtain ⟨h3, h4⟩ := kand_t h1
  obtain ⟨h5, h6⟩ := kand_t h2
  obtain ⟨d1, d2⟩ := kdn_conv h4
  obtain ⟨f1, -⟩ := kand_t k1
  obtain ⟨f2, -⟩ := kand_t k2
  unfold kfin32 at f1 f2
  rw [kfin_eq kc32] at f1 f2
  obtain ⟨g1, -⟩ := fconv_up (fin_iff.1 f1)
  obtain ⟨g2, -⟩ := fconv_up (fin_iff.1 f2)
  obtain ⟨h7, -⟩ := kand_t h6
  refine ⟨fun w => ?_, nan32 h7, h6⟩
  have hz : (FloatKind.f32.format.order (PC j) 0 == some .eq) = true → (FloatKind.f32.format.order (PS j) 0 == some .eq) = false := by
    intro hx
    rw [hx] at h3
    simpa using h3
  have := imAng (aO j) (aX j) (aY j) (PC j) (PS j) w hc hs g1 g2 (by rw [e1, e2]; rfl) f1 f2 rfl rfl hz (aT j) (by rw [e1, e2]; rfl) d2
  rwa [d1, Nat.eq_of_beq_eq_true h5] at this
structure TurnOk (u : Nat) : Prop where
  tu : fop .sub .f64 (fop .mul .f64 (fconv .f32 (AT (u % 64)) .f64) 4634204016564240384) (floatOfInt .f64 ((u : Int) - 128)) = TU u
  n : NaN .f64 (TU u) = false
  nV : NaN .f64 (fop .add .f64 (TU u) 4666723447345250304) = false
  cv : ∀ w, (convert 25 2 (.float .f64 (fop .add .f64 (TU u) 4666723447345250304))).run Try.prog w = .ok (.int .i64 (WH u : Int)) w
  gt : (FloatKind.f64.format.order (gapF (TU u) (floatOfInt .f64 ((WH u : Int) - 10000))) 4562254508917369340 == some .gt) = false
  wh : WH u = 9872 ∨ WH u = 9936 ∨ WH u = 10000 ∨ WH u = 10064 ∨ WH u = 10128
theorem turn_ok {u : Nat} (hu : u < 256) (ha : kuOk (AT (u % 64)) = true) : TurnOk u := by
  have h := all_rng okT_all hu
  unfold okT at h
  obtain ⟨h1, h2⟩ := kand_t h
  obtain ⟨h3, h4⟩ := kand_t h1
  obtain ⟨h5, h6⟩ := kand_t h2
  obtain ⟨h7, h8⟩ := kand_t h6
  have hcv : floatToIntVal .f64 (fop .add .f64 (TU u) 4666723447345250304) .i64 = some (WH u : Int) := by
    rw [add64]
    simpa using h5
  refine ⟨?_, nan64 h4, ?_, fun w => run_convert_float_int w 25 2 .f64 .i64 _ _ u25 Try.underlying2 hcv, ?_, ?_⟩
  · rw [kup_conv ha, mul64, sub64]
    exact Nat.eq_of_beq_eq_true h3
  · cases hn : NaN .f64 (fop .add .f64 (TU u) 4666723447345250304) with
    | false => rfl
    | true =>
      exfalso
      obtain ⟨s, t, e⟩ := decode_nan hn
      have hd : FloatKind.f64.decode (fop .add .f64 (TU u) 4666723447345250304) = .nan s t := e
      unfold floatToIntVal at hcv
      rw [hd] at hcv
      simp [Ieee.Datum.toInt, Ieee.Datum.integral] at hcv
  · rw [kgap_eq]
    exact kge_gt kc64 h7
  · simp only [Bool.or_eq_true] at h8
    rcases h8 with (((h | h) | h) | h) | h
    · exact .inl (Nat.eq_of_beq_eq_true h)
    · exact .inr (.inl (Nat.eq_of_beq_eq_true h))
    · exact .inr (.inr (.inl (Nat.eq_of_beq_eq_true h)))
    · exact .inr (.inr (.inr (.inl (Nat.eq_of_beq_eq_true h))))
    · exact .inr (.inr (.inr (.inr (Nat.eq_of_beq_eq_true h))))
/-- At a quarter the real part is 0 or 1 in magnitude. -/
def qOk (j : Nat) : Bool := !decide (j % 16 = 0) || ((FloatKind.f64.format.order (gapF (UC j) 0) 0 != some .eq) == false) || ((FloatKind.f64.format.order (gapF (UC j) 0) one != some .eq) == false)
theorem qOk_all : (List.range 64).all qOk = true := by decide +kernel
theorem quarter_ok {j : Nat} (hj : j < 64) (h : j % 16 = 0) : (FloatKind.f64.format.order (gapF (UC j) 0) 0 != some .eq) = false ∨ (FloatKind.f64.format.order (gapF (UC j) 0) 4607182418800017408 != some .eq) = false := by
  have g := all_rng qOk_all hj
  unfold qOk at g
  simp only [h, decide_true, Bool.not_true, Bool.false_or, Bool.or_eq_true, beq_iff_eq] at g
  exact g
end TryWalk
end Go.Proofs.Ytlabbakmlanfgaa
