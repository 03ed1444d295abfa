/- The law on powers and logarithms: the walks. No condition. -/
import Derived.Test.YtlabbakmlanfgaaKpw
import Derived.Test.YtlabbakmlanfgaaRowf
namespace Go.Proofs.Ytlabbakmlanfgaa
open Go.RowKit Flo Iee Sl Kf
set_option linter.unusedVariables false
namespace TryWalk
theorem ret_bool {a b : Bool} (h : a = b) : Ending.returned (.bool a) = .returned (.bool b) := by rw [h]
theorem longNo (a b : Option Addr) (la ca lb cb : Nat) (w : World) (ha : la ≤ 1048576) (hb : lb ≤ 1048576) : Calls Try.prog 26 #[.slice a la ca, .slice b lb cb] w fun e w' => e = .returned (.bool false) ∧ w = w' := by
  have d1 : decide ((1048576 : Int) < (la : Int)) = false := decide_eq_false (by omega)
  have d2 : decide ((1048576 : Int) < (lb : Int)) = false := decide_eq_false (by omega)
  go_enter Try.func26, Try.ntmps26
  go_wp2
  go_ret
  exact ⟨rfl, rfl⟩
theorem longYes (a b : Option Addr) (la ca lb cb : Nat) (w : World) (h : 1048576 < la ∨ 1048576 < lb) : Calls Try.prog 26 #[.slice a la ca, .slice b lb cb] w fun e w' => e = .returned (.bool true) ∧ w = w' := by
  by_cases ha : 1048576 < la
  · have d1 : decide ((1048576 : Int) < (la : Int)) = true := decide_eq_true (by omega)
    go_enter Try.func26, Try.ntmps26
    go_wp2
    go_ret
    exact ⟨rfl, rfl⟩
  · have d1 : decide ((1048576 : Int) < (la : Int)) = false := decide_eq_false (by omega)
    have d2 : decide ((1048576 : Int) < (lb : Int)) = true := decide_eq_true (by omega)
    clear h
    go_enter Try.func26, Try.ntmps26
    go_wp2
    go_ret
    exact ⟨rfl, rfl⟩
theorem atW (a : Option Addr) (len cap : Nat) (zs : List Int) (w : World) (h : IsRow .u8 w a len cap zs) (i n : Int) (hi : i = 0 ∨ i = 1) (hn1 : 2 ≤ n) (hn2 : n ≤ 256) :
    Calls Try.prog 27 #[.slice a len cap, .int .i64 i, .int .i64 n] w fun e w' => (∃ u : Nat, (u : Int) < n ∧ e = .returned (.int .i64 (u : Int))) ∧ w = w' := by
  obtain ⟨⟨hl, hs⟩, hz, hm⟩ := h
  unfold maxLen at hm
  have hfin : ∀ x : Int, 0 ≤ x → ∃ u : Nat, (u : Int) < n ∧ Ending.returned (.int .i64 (x % n)) = .returned (.int .i64 (u : Int)) := by
    intro x hx
    have h1 := Int.emod_nonneg x (show n ≠ 0 by omega)
    have h2 := Int.emod_lt_of_pos x (show 0 < n by omega)
    exact ⟨(x % n).toNat, by omega, by rw [Int.toNat_of_nonneg h1]⟩
  have HF := hid hfin
  clear hfin
  by_cases hlt : i < (len : Int)
  · obtain ⟨b, off, rfl, hb, hc⟩ := hs (by omega)
    obtain ⟨k, hk⟩ : ∃ k : Nat, i = (k : Int) := ⟨i.toNat, by omega⟩
    have hkl : k < len := by omega
    have hcell := hc k hkl
    have hzk : 0 ≤ zs.getD k 0 ∧ zs.getD k 0 < 256 := by
      have hkz : k < zs.length := by omega
      have := hz _ (List.getElem_mem hkz)
      rw [List.getD_eq_getElem?_getD, List.getElem?_eq_getElem hkz]
      have hu0 : IntKind.u8.min = 0 := by decide
      have hu1 : IntKind.u8.max = 255 := by decide
      simp [Lit.wf, hu0, hu1] at this
      simp
      omega
    generalize zs.getD k 0 = c at *
    obtain ⟨hc0, hc1⟩ := hzk
    clear hc hz hs
    subst hk
    have hk1 : k ≤ 1 := by omega
    clear hi
    go_enter Try.func27, Try.ntmps27
    go_wp2
    go_ret
    exact ⟨HF.out c hc0, rfl⟩
  · clear hs hz
    rcases hi with rfl | rfl
    · go_enter Try.func27, Try.ntmps27
      go_wp2
      go_ret
      exact ⟨HF.out 11 (by decide), rfl⟩
    · go_enter Try.func27, Try.ntmps27
      go_wp2
      go_ret
      exact ⟨HF.out 48 (by decide), rfl⟩
theorem gapW (x y X Y : Nat) (w : World) (hx : Sim .f64 x X) (hy : Sim .f64 y Y) : Calls Try.prog 28 #[.float .f64 x, .float .f64 y] w (RetF .f64 (gapF X Y) w) := by
  have ho := order_congr hx hy
  cases h : (FloatKind.f64.format.order X Y == some .lt)
  · have HE := hid (show gapF X Y = fop .sub .f64 X Y by unfold gapF; rw [h]; rfl)
    rw [← ho] at h
    clear ho
    go_enter Try.func28, Try.ntmps28
    go_wp2_with (refine wpList_fsim rfl _ _ _ _ _ rfl rfl .f64 _ _ rfl rfl (by with_reducible assumption) (by with_reducible assumption) ?_; intro r n hr hb)
    go_ret
    exact ⟨_, _, rfl, rfl, by rw [HE.out]; exact hr, hb⟩
  · have HE := hid (show gapF X Y = fop .sub .f64 Y X by unfold gapF; rw [h]; rfl)
    rw [← ho] at h
    clear ho
    go_enter Try.func28, Try.ntmps28
    go_wp2_with (refine wpList_fsim rfl _ _ _ _ _ rfl rfl .f64 _ _ rfl rfl (by with_reducible assumption) (by with_reducible assumption) ?_; intro r n hr hb)
    go_ret
    exact ⟨_, _, rfl, rfl, by rw [HE.out]; exact hr, hb⟩
theorem ek_ge : ∀ i, i < 12 → (FloatKind.f64.format.order (ek i) 4607182418800017408 == some .gt || FloatKind.f64.format.order (ek i) 4607182418800017408 == some .eq) = true := by decide +kernel
theorem ek_end : (FloatKind.f64.format.order (ek 12) 4607182418800017408 == some .gt || FloatKind.f64.format.order (ek 12) 4607182418800017408 == some .eq) = false := by decide +kernel
theorem ek_nan : ∀ i, i < 13 → NaN .f64 (ek i) = false := by decide +kernel
theorem ek_dec : ∀ i, i < 12 → ek (i + 1) < ek i := by decide +kernel
structure ExpOk (x : Nat) : Prop where
  g1 : (FloatKind.f32.format.order x 1128792064 == some .gt) = false
  g2 : (FloatKind.f32.format.order x 3276275712 == some .lt) = false
  ov : over .f64 (expW x) .f32 = false
set_option maxHeartbeats 1000000 in
theorem imExp (x : Nat) (w : World) (hf : Fits .f32 x) (h : ExpOk x) : Calls Try.prog 25 #[.float .f32 x] w (RetF .f32 (expN x) w) := by
  obtain ⟨g1, g2, ov⟩ := h
  have HO := hid ov
  have HE : Hid (expN x = fconv .f64 (sqs (expP (fop .quo .f64 (fconv .f32 x .f64) 4643211215818981376) 12) 8) .f32) := hid rfl
  have HO2 : Hid (over .f64 (sqs (expP (fop .quo .f64 (fconv .f32 x .f64) 4643211215818981376) 12) 8) .f32 = false) := hid ov
  have hs25 := u25
  clear ov
  go_enter Try.func25, Try.ntmps25
  go_wp2_with (first | (refine wpList_up rfl _ _ _ rfl _ rfl hf u22 Try.underlying25 (Sim.refl _ _) ?_; intro r n hr hb) | (refine wpList_fsim rfl _ _ _ _ _ rfl rfl .f64 _ _ rfl rfl (by with_reducible assumption) (Sim.refl _ _) ?_; intro t n ht hbt))
  obtain ⟨T, hT⟩ : ∃ T, fop .quo .f64 (fconv .f32 x .f64) 4643211215818981376 = T := ⟨_, rfl⟩
  rw [hT] at HE HO2 ht
  clear hT hr hb HO
  go_loopw [4, 5] (fun p k wr => ∃ (i q n : Nat), i ≤ 12 ∧ k = .float .f64 (ek i) ∧ p = .float .f64 q ∧ Sim .f64 q (expP T i) ∧ Fits .f64 q ∧ wr = w.drewN n) (fun _ k _ => bitsV k)
  case atStart => exact ⟨0, one, _, by omega, rfl, rfl, Sim.refl _ _, fits_of_wf (by decide), rfl⟩
  case round =>
    obtain ⟨i, q, n, hi, rfl, rfl, hq, hfq, rfl⟩ := hrel
    by_cases hlt : i < 12
    · have hk := ek_ge i hlt
      have HK := hid (ek_nan (i + 1) (by omega))
      have HD := hid (ek_dec i hlt)
      go_wp2_with (refine wpList_fsim rfl _ _ _ _ _ rfl rfl .f64 _ _ rfl rfl (by first | with_reducible assumption | exact Sim.refl _ _) (by first | with_reducible assumption | exact Sim.refl _ _) ?_; intro r n hr hb)
      obtain rfl := sim_eq (show Sim .f64 r (ek (i + 1)) from hr) HK.out
      go_roundw
      case rel => exact ⟨i + 1, _, _, by omega, rfl, rfl, by show Sim _ _ (fop .add .f64 one (fop .quo .f64 (fop .mul .f64 T (expP T i)) (ek i))); with_reducible assumption, by with_reducible assumption, rfl⟩
      case measure => exact HD.out
    · obtain rfl : i = 12 := by omega
      have hk := ek_end
      obtain ⟨P, hP⟩ : ∃ P, expP T 12 = P := ⟨_, rfl⟩
      rw [hP] at hq HE HO2
      clear hP
      go_wp2_with fail
      clear hk hlt
      go_loopw [4, 27] (fun p i wr => ∃ (j q n : Nat), j ≤ 8 ∧ i = .int .i64 j ∧ p = .float .f64 q ∧ Sim .f64 q (sqs P j) ∧ Fits .f64 q ∧ wr = w.drewN n) (fun _ i _ => 8 - (intOf i).toNat)
      case atStart => exact ⟨0, q, _, by omega, rfl, rfl, hq, hfq, rfl⟩
      case round =>
        obtain ⟨j, q, n, hj, rfl, rfl, hq, hfq, rfl⟩ := hrel
        by_cases hlt : j < 8
        · go_wp2_with (refine wpList_fsim rfl _ _ _ _ _ rfl rfl .f64 _ _ rfl rfl (by with_reducible assumption) (by with_reducible assumption) ?_; intro r n hr hb)
          go_roundw
          case rel => exact ⟨j + 1, _, _, by omega, by go_num, rfl, hr, hb, rfl⟩
          case measure => simp [intOf]; omega
        · obtain rfl : j = 8 := by omega
          go_wp2_with (refine wpList_fcsim rfl _ _ _ rfl .f64 .f32 _ rfl (by with_reducible assumption) hs25 Try.underlying22 (by decide) (by with_reducible assumption) ?_; intro r n hr hb)
          go_ret
          exact ⟨_, _, rfl, rfl, by rw [HE.out]; exact hr HO2.out, hb⟩

/-! ### what the kernel reckoned -/
theorem all_range {n : Nat} {p : Nat → Bool} (h : (List.range n).all p = true) {u : Nat} (hu : u < n) : p u = true := List.all_eq_true.1 h u (List.mem_range.2 hu)
theorem pwX {u : Nat} (hu : u < 65) : fop .quo .f32 (floatOfInt .f32 ((u : Int) - 32)) 1090519040 = XT (u + 32) := by
  have h := all_range okX_all hu
  rw [quo32]
  exact Nat.eq_of_beq_eq_true h
theorem pwE {s : Nat} (hs : s < 129) : ExpOk (XT s) ∧ NaN .f32 (XT s) = false ∧ expN (XT s) = ET s ∧ NaN .f32 (ET s) = false ∧ Fits .f32 (ET s) ∧ fconv .f32 (ET s) .f64 = UT s ∧ NaN .f64 (UT s) = false ∧ fop .mul .f64 thou (UT s) = MT s := by
  have h := all_range okE_all hs
  unfold okE at h
  obtain ⟨h1, h2⟩ := kand_t h
  obtain ⟨h3, h4⟩ := kand_t h1
  obtain ⟨g1, g2⟩ := kand_t h3
  obtain ⟨g3, g4⟩ := kand_t h4
  obtain ⟨h5, h6⟩ := kand_t h2
  obtain ⟨g5, g6⟩ := kand_t h5
  obtain ⟨h7, h8⟩ := kand_t h6
  obtain ⟨g7, g8⟩ := kand_t h7
  have hk := kexpW_eq (XT s) g4
  have hd := kdn_conv g5
  rw [← hk] at hd
  have e1 : expN (XT s) = ET s := by
    unfold expN
    rw [hd.1, hk]
    exact Nat.eq_of_beq_eq_true g6
  have e2 : fconv .f32 (ET s) .f64 = UT s := by
    rw [kup_conv g7]
    exact Nat.eq_of_beq_eq_true g8
  have n1 : NaN .f32 (ET s) = false := by
    obtain ⟨g, -⟩ := kand_t g7
    exact nan32 g
  refine ⟨⟨kge_gt kc32 g1, kge_lt kc32 g2, hd.2⟩, nan32 g3, e1, n1, ?_, e2, ?_, ?_⟩
  · rw [← e1]
    exact fits_fconv (fits_fop ..)
  · rw [← e2]
    exact (fconv_up_sgn n1).1
  · rw [mul64]
    exact Nat.eq_of_beq_eq_true h8
theorem pwL {u : Nat} (hu : u < 65) : Pos (ET (u + 32)) ∧ ∃ L, fconv .f64 (logF (fconv .f32 (ET (u + 32)) .f64)) .f32 = L ∧ NaN .f32 L = false ∧ (FloatKind.f64.format.order (gapF (fconv .f32 L .f64) (fconv .f32 (XT (u + 32)) .f64)) thou == some .lt) = true := by
  have h := all_range okL_all hu
  have hE := all_range okE_all (show u + 32 < 129 by omega)
  unfold okE at hE
  obtain ⟨q1, q2⟩ := kand_t hE
  obtain ⟨q3, q4⟩ := kand_t q1
  obtain ⟨p3, p4⟩ := kand_t q4
  obtain ⟨q5, q6⟩ := kand_t q2
  obtain ⟨q7, q8⟩ := kand_t q6
  obtain ⟨p7, p8⟩ := kand_t q7
  unfold okL at h
  obtain ⟨h1, h2⟩ := kand_t h
  obtain ⟨g1, g2⟩ := kand_t h1
  obtain ⟨g3, h3⟩ := kand_t h2
  obtain ⟨g4, g5⟩ := kand_t h3
  have hl := klogF_eq (kup (ET (u + 32)))
  have hd := kdn_conv g3
  refine ⟨pos_of (Nat.le_of_ble_eq_true g1) (Nat.le_of_ble_eq_true g2), _, rfl, ?_, ?_⟩
  · rw [kup_conv p7, hl, hd.1]
    obtain ⟨g, -⟩ := kand_t g4
    exact nan32 g
  · rw [kup_conv p7, hl, hd.1, kgap_eq, kup_conv (show kuOk (kdn (klogF (kup (ET (u + 32))))) = true from g4), kup_conv (show kuOk (XT (u + 32)) = true from p4)]
    exact klt_lt kc64 g5
theorem pwP {u v : Nat} (hu : u < 65) (hv : v < 65) : fop .add .f32 (XT (u + 32)) (XT (v + 32)) = XT (u + v) ∧ (FloatKind.f64.format.order (gapF (fop .mul .f64 (UT (u + 32)) (UT (v + 32))) (UT (u + v))) (MT (u + v)) == some .lt) = true := by
  have h := all_range okP_all hu
  unfold okPs at h
  have h2 := all_range h hv
  unfold okP at h2
  obtain ⟨h3, h4⟩ := kand_t h2
  constructor
  · rw [add32]
    exact Nat.eq_of_beq_eq_true h3
  · rw [kgap_eq, mul64]
    exact klt_lt kc64 h4
end TryWalk
end Go.Proofs.Ytlabbakmlanfgaa
