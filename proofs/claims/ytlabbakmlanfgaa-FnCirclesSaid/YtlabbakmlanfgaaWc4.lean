/- The law on phasors. No condition. -/
import Derived.Test.YtlabbakmlanfgaaWc2
import Derived.Test.YtlabbakmlanfgaaWc3
namespace Go.Proofs.Ytlabbakmlanfgaa
open Go.RowKit Flo Iee Sl Kf
set_option linter.unusedVariables false
namespace TryWalk
/-- What is known of the phasor of j 64ths of a turn, by letters. -/
structure PhF (c s C S : Nat) : Prop where
  nc : NaN .f32 c = false
  ns : NaN .f32 s = false
  uc : fconv .f32 c .f64 = C
  us : fconv .f32 s .f64 = S
  nC : NaN .f64 C = false
  nS : NaN .f64 S = false
  fc : Fits .f32 c
  fs : Fits .f32 s
def fitB (j : Nat) : Bool := decide (PC j < 4294967296) && decide (PS j < 4294967296)
theorem fitB_all : (List.range 64).all fitB = true := by decide +kernel
theorem fits_of_lt {x : Nat} (h : x < 4294967296) : Fits .f32 x := fits_of_wf (by simpa [Lit.wf] using h)
theorem phF (j : Nat) (hj : j < 64) : PhF (PC j) (PS j) (UC j) (US j) := by
  obtain ⟨n1, n2, e1, e2, -, -⟩ := pc_up j hj
  have h := all_rng fitB_all hj
  unfold fitB at h
  simp only [Bool.and_eq_true, decide_eq_true_eq] at h
  exact ⟨n1, n2, e1, e2, by rw [← e1]; exact (fconv_up_sgn n1).1, by rw [← e2]; exact (fconv_up_sgn n2).1, fits_of_lt h.1, fits_of_lt h.2⟩
theorem mod64_no {W : Nat} (h : W = 9872 ∨ W = 9936 ∨ W = 10000 ∨ W = 10064 ∨ W = 10128) : ((((W : Int) - 10000).tmod 64) != 0) = false ∧ 9872 ≤ W ∧ W ≤ 10128 := by
  rcases h with rfl | rfl | rfl | rfl | rfl <;> decide
theorem tmod16 {u j : Nat} (hj : u % 64 = j) (h : ((((u : Int) - 128).tmod 16) == 0) = true) : j % 16 = 0 := by
  have h1 : ((u : Int) - 128).tmod 16 = 0 := by simpa using h
  have h2 := Int.dvd_of_tmod_eq_zero h1
  omega
theorem up_run {x X : Nat} (hn : NaN .f32 x = false) (h : fconv .f32 x .f64 = X) (w : World) : (convert 22 25 (.float .f32 x)).run Try.prog w = .ok (.float .f64 X) w := by
  have hb : floatToFloatBits .f32 x .f64 = some X := by
    rcases three .f32 x with h1 | h1 | h1
    · obtain ⟨r, e, -⟩ := conv_up h1
      unfold fconv at h
      rw [e] at h
      rw [e, show r = X from h]
    · have e := conv_inf (s := .f32) (k := .f64) (by decide) h1
      unfold fconv at h
      rw [e] at h
      rw [e]
      exact congrArg some h
    · rw [hn] at h1; cases h1
  exact run_convert_float_float w 22 25 .f32 .f64 x X u22 Try.underlying25 hb
/-- The angle of i. -/
theorem angI (w : World) : Calls Try.prog 42 #[.complex .f32 0 1065353216] w (RetF .f32 1048576000 w) := by
  have h := (ang_ok (j := 16) (by decide) (fits_of_lt (by decide)) (fits_of_lt (by decide))).1
  rw [show PC 16 = 0 from rfl, show PS 16 = 1065353216 from rfl, show AT 16 = 1048576000 from rfl] at h
  exact angOfW _ _ _ h w
theorem nan_quarter : NaN .f32 1048576000 = false := by decide +kernel
theorem nan_zero0 : NaN .f32 0 = false := by decide +kernel
theorem t3_lt (n : Nat) : T3 n < 512 := Nat.mod_lt _ (by decide)
set_option maxRecDepth 100000 in
set_option maxHeartbeats 8000000 in
theorem fnCircles (a : Option Addr) (la ca : Nat) (xs : List Int) (b : Option Addr) (lb cb : Nat) (ys : List Int) (w : World) (hra : IsRow .u8 w a la ca xs) (hrb : IsRow .u8 w b lb cb ys) : Calls Try.prog 14 #[.slice a la ca, .slice b lb cb] w fun e w' => e = .returned (.bool true) ∧ Below w.heap.size w w' := by
  have HA := hid hra
  have HB := hid hrb
  clear hra hrb
  by_cases hbig : 1048576 < la ∨ 1048576 < lb
  · have HBIG := hid hbig
    clear hbig
    go_enter Try.func14, Try.ntmps14
    go_wp2_with fail
    refine (longYes _ _ _ _ _ _ _ HBIG.out).mono ?_
    rintro e w' ⟨rfl, rfl⟩
    go_wp2_with fail
    go_ret
    exact ⟨rfl, Below.refl _ _⟩
  · have hla : la ≤ 1048576 := by omega
    have hlb : lb ≤ 1048576 := by omega
    clear hbig
    go_enter Try.func14, Try.ntmps14
    go_wp2_with fail
    refine (longNo _ _ _ _ _ _ _ hla hlb).mono ?_
    rintro e w' ⟨rfl, rfl⟩
    go_wp2_with fail
    refine (atW _ _ _ _ _ HA.out 0 256 (.inl rfl) (by decide) (by decide)).mono ?_
    rintro e w' ⟨⟨u, hu, rfl⟩, rfl⟩
    go_wp2_with fail
    refine (atW _ _ _ _ _ HA.out 1 256 (.inr rfl) (by decide) (by decide)).mono ?_
    rintro e w' ⟨⟨v, hv, rfl⟩, rfl⟩
    have hu2 : u < 256 := by omega
    have hv2 : v < 256 := by omega
    clear hu hv
    obtain ⟨j, hj⟩ : ∃ j, u % 64 = j := ⟨_, rfl⟩
    obtain ⟨k, hk⟩ : ∃ k, v % 64 = k := ⟨_, rfl⟩
    obtain ⟨r, hr⟩ : ∃ r, (j + k) % 64 = r := ⟨_, rfl⟩
    have hj64 : j < 64 := by omega
    have hk64 : k < 64 := by omega
    have hr64 : r < 64 := by omega
    have HP1 := hid (fun w => phW (i := u + 128) (j := j) (by omega) (by omega) w)
    have HP2 := hid (fun w => phW (i := v + 128) (j := k) (by omega) (by omega) w)
    have HP3 := hid (fun w => phW (i := u + v) (j := r) (by omega) (by omega) w)
    have HY1 := hid (yT_a u)
    have HY2 := hid (yT_a v)
    have HY3 := hid (yT_ab u v)
    have HN1 := hid (yT_ok (i := u + 128) (by omega)).1
    have HN2 := hid (yT_ok (i := v + 128) (by omega)).1
    have HN3 := hid (yT_ok (i := u + v) (by omega)).1
    have HF1 := hid (phF j hj64)
    have HF2 := hid (phF k hk64)
    have HF3 := hid (phF r hr64)
    have HMU := hid (mul_ok hj64 hk64 hr).1
    have HMV := hid (mul_ok hj64 hk64 hr).2
    have HPW := hid (pow_ok hj64)
    obtain ⟨hang, hna, hku⟩ := ang_ok hj64 HF1.out.fc HF1.out.fs
    obtain ⟨tu, tn, tv, tc, tg, twh⟩ := turn_ok hu2 (by rw [hj]; exact hku)
    rw [hj] at tu
    have HTU := hid tu
    have HTN := hid tn
    have HTV := hid tv
    have HTC := hid tc
    have HTG := hid tg
    obtain ⟨w64, wlo, whi⟩ := mod64_no twh
    have HW64 := hid w64
    have HANG := hid (fun w => angOfW _ _ _ hang w)
    have HNA := hid hna
    have HQ := hid (fun h => quarter_ok hj64 h)
    have HJ : Hid (u % 64 = j) := hid hj
    clear tu tn tv tc tg twh w64 hang hna hku hj hk hr hj64 hk64 hr64
    generalize yT (u + 128) = y1 at *
    generalize yT (v + 128) = y2 at *
    generalize yT (u + v) = y3 at *
    generalize PC j = c1 at *
    generalize PS j = s1 at *
    generalize UC j = C1 at *
    generalize US j = S1 at *
    generalize PC k = c2 at *
    generalize PS k = s2 at *
    generalize UC k = C2 at *
    generalize US k = S2 at *
    generalize PC r = c3 at *
    generalize PS r = s3 at *
    generalize UC r = C3 at *
    generalize US r = S3 at *
    generalize AT j = A0 at *
    generalize TU u = T0 at *
    generalize WH u = W at *
    clear k r
    go_wp2_with (refine wpList_fsim rfl .quo _ _ _ _ rfl rfl .f64 _ _ rfl rfl (Sim.refl _ _) (Sim.refl _ _) ?_; intro y n hr hb; rw [HY1.out] at hr; obtain rfl := sim_eq hr HN1.out; clear hr hb)
    refine (HP1.out _).mono ?_
    rintro e w' ⟨p1, p2, n, rfl, rfl, h1, h2, f1, f2⟩
    obtain rfl := sim_eq h1 HF1.out.nc
    obtain rfl := sim_eq h2 HF1.out.ns
    clear h1 h2 f1 f2
    go_wp2_with (refine wpList_fsim rfl .quo _ _ _ _ rfl rfl .f64 _ _ rfl rfl (Sim.refl _ _) (Sim.refl _ _) ?_; intro y' n hr hb; rw [HY2.out] at hr; obtain rfl := sim_eq hr HN2.out; clear hr hb)
    refine (HP2.out _).mono ?_
    rintro e w' ⟨q1, q2, n, rfl, rfl, h1, h2, f1, f2⟩
    obtain rfl := sim_eq h1 HF2.out.nc
    obtain rfl := sim_eq h2 HF2.out.ns
    clear h1 h2 f1 f2
    go_wp2_with (refine wpList_fsim rfl .quo _ _ _ _ rfl rfl .f64 _ _ rfl rfl (Sim.refl _ _) (Sim.refl _ _) ?_; intro y'' n hr hb; rw [HY3.out] at hr; obtain rfl := sim_eq hr HN3.out; clear hr hb)
    refine (HP3.out _).mono ?_
    rintro e w' ⟨r1, r2, n, rfl, rfl, h1, h2, f1, f2⟩
    obtain rfl := sim_eq h1 HF3.out.nc
    obtain rfl := sim_eq h2 HF3.out.ns
    clear h1 h2 f1 f2
    go_wp2_with fail
    refine (HANG.out _).mono ?_
    rintro e w' ⟨A, n, rfl, rfl, hr, hfA⟩
    obtain rfl := sim_eq hr HNA.out
    have HFA := hid hfA
    clear hr hfA HP1 HP2 HP3 HY1 HY2 HY3 HN1 HN2 HN3
    have hcv := HTC.out
    obtain ⟨V0, hV0⟩ : ∃ V, fop .add .f64 T0 4666723447345250304 = V := ⟨_, rfl⟩
    have HV0 := hid hV0
    rw [hV0] at hcv HTV
    clear hV0 HTC
    go_wp2_with (first
      | (refine wpList_up rfl _ _ _ rfl A rfl HFA.out u22 Try.underlying25 (Sim.refl _ _) ?_; intro l n hl hbl)
      | (refine wpList_fsim rfl .mul _ _ _ _ rfl rfl .f64 _ _ rfl rfl (by with_reducible assumption) (Sim.refl _ _) ?_; intro m n hm hbm)
      | (refine wpList_fsim rfl .sub _ _ _ _ rfl rfl .f64 _ _ rfl rfl (by with_reducible assumption) (Sim.refl _ _) ?_; intro T n hT hbT; rw [HTU.out] at hT; obtain rfl := sim_eq hT HTN.out; clear hT hbT)
      | (refine wpList_fsim rfl .add _ _ _ _ rfl rfl .f64 _ _ rfl rfl (Sim.refl _ _) (Sim.refl _ _) ?_; intro V n hV hbV; rw [HV0.out] at hV; obtain rfl := sim_eq hV HTV.out; clear hV hbV))
    have HPOW := hid (fun w => powerW p1 p2 C1 S1 w HF1.out.fc HF1.out.fs HF1.out.uc HF1.out.us HF1.out.nC HF1.out.nS HPW.out.ov)
    obtain ⟨-, p32, p64, -, pgt⟩ := HPW.out
    generalize fconv .f64 (pW C1 S1) .f32 = Q0 at HPOW p32 p64 pgt
    obtain ⟨UQ, hUQ⟩ : ∃ x, fconv .f32 Q0 .f64 = x := ⟨_, rfl⟩
    rw [hUQ] at p64 pgt
    have HUQ := hid hUQ
    have HQ32 := hid p32
    have HQ64 := hid p64
    have pgt2 : (FloatKind.f64.format.order (gapF UQ 4607182418800017408) 4547007122018943789 == some .gt) = false := pgt
    have HMUL := hid (fun w => mulW p1 p2 q1 q2 C1 S1 C2 S2 w HF1.out.fc HF1.out.fs HF2.out.fc HF2.out.fs HF1.out.uc HF1.out.us HF2.out.uc HF2.out.us HF1.out.nC HF1.out.nS HF2.out.nC HF2.out.nS HMU.out.ov HMV.out.ov)
    obtain ⟨-, u32, u64, ule, -⟩ := HMU.out
    obtain ⟨-, v32, v64, vle, -⟩ := HMV.out
    generalize fconv .f64 (mU C1 S1 C2 S2) .f32 = M0 at HMUL u32 u64 ule
    generalize fconv .f64 (mV C1 S1 C2 S2) .f32 = N0 at HMUL v32 v64 vle
    have HNEAR := hid (fun w fM fN => nearW M0 N0 r1 r2 _ _ C3 S3 w fM fN HF3.out.fc HF3.out.fs rfl rfl HF3.out.uc HF3.out.us u64 v64 HF3.out.nC HF3.out.nS ule vle)
    have HM32 := hid u32
    have HN32 := hid v32
    clear hUQ p32 p64 pgt u32 u64 ule v32 v64 vle HPW HMU HMV hcv hl hbl hm hbm HTU HTN HTV HANG HV0
    refine (HPOW.out _).mono ?_
    rintro e w' ⟨Q, n, rfl, rfl, hr, hfQ⟩
    obtain rfl := sim_eq hr HQ32.out
    have HFQ := hid hfQ
    clear hr hfQ HPOW
    go_wp2_with (refine wpList_up rfl _ _ _ rfl Q rfl HFQ.out u22 Try.underlying25 (Sim.refl _ _) ?_; intro z n hr hb; rw [HUQ.out] at hr; obtain rfl := sim_eq hr HQ64.out; clear hr hb)
    refine (gapW _ _ _ _ _ (Sim.refl _ _) (Sim.refl _ _)).mono ?_
    rintro e w' ⟨g1, n, rfl, rfl, hg, hgb⟩
    have ht := order_congr hg (Sim.refl .f64 4547007122018943789)
    clear hg hgb
    go_wp2_with fail
    refine (HMUL.out _).mono ?_
    rintro e w' ⟨M, N, n, rfl, rfl, h1, h2, f1, f2⟩
    obtain rfl := sim_eq h1 HM32.out
    obtain rfl := sim_eq h2 HN32.out
    have HNW := hid (fun w => HNEAR.out w f1 f2)
    clear h1 h2 f1 f2 ht pgt2 HMUL HNEAR
    go_wp2_with fail
    refine (HNW.out _).mono ?_
    rintro e w' ⟨rfl, n, rfl⟩
    clear HNW
    go_wp2_with fail
    refine (gapW _ _ _ _ _ (Sim.refl _ _) (Sim.refl _ _)).mono ?_
    rintro e w' ⟨g2, n, rfl, rfl, hg, hgb⟩
    have ht := order_congr hg (Sim.refl .f64 4562254508917369340)
    have hgt := HTG.out
    have hw64 := HW64.out
    clear hg hgb
    have hcase : ((((u : Int) - 128).tmod 16) == 0) = false ∨ (((((u : Int) - 128).tmod 16) == 0) = true ∧ (FloatKind.f64.format.order (gapF C1 0) 0 != some .eq) = false) ∨ (((((u : Int) - 128).tmod 16) == 0) = true ∧ (FloatKind.f64.format.order (gapF C1 0) 0 != some .eq) = true ∧ (FloatKind.f64.format.order (gapF C1 0) 4607182418800017408 != some .eq) = false) := by
      cases h16 : ((((u : Int) - 128).tmod 16) == 0) with
      | false => exact .inl rfl
      | true =>
        right
        cases h0 : (FloatKind.f64.format.order (gapF C1 0) 0 != some .eq) with
        | false => exact .inl ⟨rfl, rfl⟩
        | true =>
          rcases HQ.out (tmod16 HJ.out h16) with h | h
          · rw [h0] at h; cases h
          · exact .inr ⟨rfl, rfl, h⟩
    have hup := up_run HF1.out.nc HF1.out.uc
    rcases hcase with hA1 | ⟨hB1, hB2⟩ | ⟨hC1, hC2, hC3⟩
    go_wp2_with fail
    rotate_left
    go_wp2_with fail
    refine (gapW _ _ _ _ _ (Sim.refl _ _) (Sim.refl _ _)).mono ?_
    rintro e w' ⟨g3, n, rfl, rfl, hg, hgb⟩
    have ht3 := order_congr hg (Sim.refl .f64 0)
    clear hg hgb
    go_wp2_with fail
    rotate_left
    go_wp2_with fail
    refine (gapW _ _ _ _ _ (Sim.refl _ _) (Sim.refl _ _)).mono ?_
    rintro e w' ⟨g3, n, rfl, rfl, hg, hgb⟩
    have ht3 := order_congr hg (Sim.refl .f64 0)
    clear hg hgb
    go_wp2_with fail
    refine (gapW _ _ _ _ _ (Sim.refl _ _) (Sim.refl _ _)).mono ?_
    rintro e w' ⟨g4, n, rfl, rfl, hg, hgb⟩
    have ht4 := order_congr hg (Sim.refl .f64 4607182418800017408)
    clear hg hgb
    go_wp2_with fail
    rotate_left
    all_goals clear hup hgt hw64 ht HTG HW64 HQ HF1 HF2 HF3
    all_goals
      refine (atW _ _ _ _ _ (by exact HB.out) 0 200 (.inl rfl) (by decide) (by decide)).mono ?_
      rintro e w' ⟨⟨i1, hi1, rfl⟩, rfl⟩
      have hi1' : i1 < 200 := by omega
      have HX1 := hid (xW_ok hi1')
      obtain ⟨P1, F1, E1⟩ := ten_one (m := i1 + 1) (by omega) (by omega)
      have HM := hid (fun n (h0 : 1 ≤ n) (h : n ≤ 200) => w32_mul (m := i1 + 1) (by omega) (by omega) h0 h)
      obtain ⟨x0, hx0⟩ : ∃ x, W32 146 (i1 + 1) = x := ⟨_, rfl⟩
      rw [hx0] at HX1 P1 F1 E1
      have HX0 := hid hx0
      have HXN := hid (nan_of_fin (k := .f32) (fin_iff.1 P1.xf))
      have HT1 := hid (fun w => imTenPos x0 w F1 P1)
      have HE1 := hid E1
      clear hi1 hx0 P1 F1 E1
      go_wp2_with (refine wpList_fsim rfl .quo _ _ _ _ rfl rfl .f32 _ _ rfl rfl (Sim.refl _ _) (Sim.refl _ _) ?_; intro x n hr hb; rw [HX1.out] at hr; obtain rfl := sim_eq hr HXN.out; clear hr hb)
      refine (atW _ _ _ _ _ (by exact HB.out) 1 200 (.inr rfl) (by decide) (by decide)).mono ?_
      rintro e w' ⟨⟨i2, hi2, rfl⟩, rfl⟩
      have hi2' : i2 < 200 := by omega
      have HX2 := hid (xW_ok hi2')
      obtain ⟨P2, F2, E2⟩ := ten_one (m := i2 + 1) (by omega) (by omega)
      obtain ⟨P3, F3, E3⟩ := ten_prod (m := i1 + 1) (n := i2 + 1) (by omega) (by omega) (by omega) (by omega)
      obtain ⟨le1, le2, -⟩ := pair_ok (m := i1 + 1) (n := i2 + 1) (by omega) (by omega) (by omega) (by omega)
      have HM2 := HM.out (i2 + 1) (by omega) (by omega)
      obtain ⟨y0, hy0⟩ : ∃ x, W32 146 (i2 + 1) = x := ⟨_, rfl⟩
      obtain ⟨z0, hz0⟩ : ∃ x, W32 143 ((i1 + 1) * (i2 + 1)) = x := ⟨_, rfl⟩
      rw [hy0] at HX2 P2 F2 E2 HM2
      rw [hz0] at P3 F3 E3 HM2
      rw [HX0.out] at HM2
      have HYN := hid (nan_of_fin (k := .f32) (fin_iff.1 P2.xf))
      have HZN := hid (nan_of_fin (k := .f32) (fin_iff.1 P3.xf))
      have HT2 := hid (fun w => imTenPos y0 w F2 P2)
      have HT3 := hid (fun w => imTenPos z0 w F3 P3)
      have HE2 := hid E2
      have HE3 := hid E3
      have HMM := hid HM2
      have l1 := t3_lt (8 * (i1 + 1))
      have l2 := t3_lt (8 * (i2 + 1))
      have l3 := t3_lt ((i1 + 1) * (i2 + 1))
      clear hi2 hy0 hz0 P2 F2 E2 P3 F3 E3 HM2 HM HX0 HX1
      generalize T3 (8 * (i1 + 1)) = a1 at *
      generalize T3 (8 * (i2 + 1)) = a2 at *
      generalize T3 ((i1 + 1) * (i2 + 1)) = a3 at *
      obtain ⟨t1, ht1⟩ : ∃ t, tenI x = t := ⟨_, rfl⟩
      obtain ⟨t2, ht2⟩ : ∃ t, tenI y0 = t := ⟨_, rfl⟩
      obtain ⟨t3, ht3⟩ : ∃ t, tenI z0 = t := ⟨_, rfl⟩
      rw [ht1] at HT1 HE1
      rw [ht2] at HT2 HE2
      rw [ht3] at HT3 HE3
      have b1 : -200 ≤ t1 ∧ t1 ≤ 312 := by have := HE1.out; omega
      have b2 : -200 ≤ t2 ∧ t2 ≤ 312 := by have := HE2.out; omega
      have b3 : -200 ≤ t3 ∧ t3 ≤ 312 := by have := HE3.out; omega
      have q1 : t1 + t2 - t3 ≤ 1 := by have := HE1.out; have := HE2.out; have := HE3.out; omega
      have q2 : t3 - t1 - t2 ≤ 1 := by have := HE1.out; have := HE2.out; have := HE3.out; omega
      obtain ⟨b11, b12⟩ := b1
      obtain ⟨b21, b22⟩ := b2
      obtain ⟨b31, b32⟩ := b3
      clear ht1 ht2 ht3 HE1 HE2 HE3 l1 l2 l3 le1 le2
      go_wp2_with (refine wpList_fsim rfl .quo _ _ _ _ rfl rfl .f32 _ _ rfl rfl (Sim.refl _ _) (Sim.refl _ _) ?_; intro yy n hr hb; rw [HX2.out] at hr; obtain rfl := sim_eq hr HYN.out; clear hr hb)
      refine (HT1.out _).mono ?_
      rintro e w' ⟨rfl, n, rfl⟩
      go_wp2_with fail
      refine (HT2.out _).mono ?_
      rintro e w' ⟨rfl, n, rfl⟩
      go_wp2_with (refine wpList_fsim rfl .mul _ _ _ _ rfl rfl .f32 _ _ rfl rfl (Sim.refl _ _) (Sim.refl _ _) ?_; intro zz n hr hb; rw [HMM.out] at hr; obtain rfl := sim_eq hr HZN.out; clear hr hb)
      refine (HT3.out _).mono ?_
      rintro e w' ⟨rfl, n, rfl⟩
      have HT4 := hid (fun w => imTenPos 1065353216 w (fits_of_wf (by decide)) ten_unit.1)
      rw [ten_unit.2] at HT4
      have HA16 := hid angI
      go_wp2_with fail
      refine (HT4.out _).mono ?_
      rintro e w' ⟨rfl, n, rfl⟩
      go_wp2_with fail
      refine (HA16.out _).mono ?_
      rintro e w' ⟨I, n, rfl, rfl, hr, hb⟩
      obtain rfl := sim_eq hr nan_quarter
      clear hr hb
      go_wp2_with fail
      refine (notSame 1048576000 0 _ (by decide) (by decide) nan_quarter nan_zero0 (by decide)).mono ?_
      rintro e w' ⟨rfl, rfl⟩
      go_wp2_with fail
      go_ret
      exact ⟨rfl, below_drewN (Below.refl _ _) _⟩
end TryWalk
end Go.Proofs.Ytlabbakmlanfgaa
