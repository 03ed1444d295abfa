/- The law on TenthsOf. No condition. -/
import Derived.Test.YtlabbakmlanfgaaWlog3
namespace Go.Proofs.Ytlabbakmlanfgaa
open Go.RowKit Flo Iee
set_option linter.unusedVariables false
namespace TryWalk
/-! ### Floor -/
def floorN (v : Nat) : Nat := Ieee.Toward.down.cut (sgn Ieee.double v) (mg Ieee.double (rung Ieee.double v) <<< (Ieee.double.leastPlace + (ex Ieee.double (rung Ieee.double v) : Int)).toNat) (-(Ieee.double.leastPlace + (ex Ieee.double (rung Ieee.double v) : Int))).toNat
def floorF (v : Nat) : Nat := Ieee.double.nearest (sgn Ieee.double v) (floorN v) 0
theorem floor_eq (v : Nat) : ∃ q : Bool → Nat → Sem Value, Extern.MathFloor.toIntegral "math.archFloor" .down #[.float .f64 v] = (match FloatKind.f64.decode v with
    | .nan s t => q s t
    | d => pure (.float .f64 (FloatKind.f64.encode (d.integral .down)))) := ⟨_, rfl⟩
theorem run_floor (v : Nat) (h : FinW Ieee.double v) (w : World) : (callFunc 84 #[.float .f64 v]).run Try.prog w = .ok (.value (.float .f64 (floorF v))) w := by
  have hx : (callFunc 84 #[.float .f64 v]).run Try.prog w = ((Extern.MathFloor.toIntegral "math.archFloor" .down #[.float .f64 v]).run Try.prog w).andThen fun v w' => .ok (.value v) w' :=
    run_callFunc_extern (e := Extern.MathFloor.toIntegral "math.archFloor" .down) Try.func84 (by kernel_rfl) (by kernel_rfl) (by kernel_rfl) (by kernel_rfl) _ w
  have hd : FloatKind.f64.decode v = .number (sgn Ieee.double v) (mg Ieee.double (rung Ieee.double v)) (Ieee.double.leastPlace + ex Ieee.double (rung Ieee.double v)) := read_fin h
  obtain ⟨q, hq⟩ := floor_eq v
  rw [hx, hq, hd]
  rfl
theorem floorN_le {v : Nat} (hb : Bd 1038 v) : floorN v ≤ 2 ^ 16 + 1 := by
  have hmv : mv Ieee.double (rung Ieee.double v) / 2 ^ un ≤ 2 ^ 16 := by
    have e : 2 ^ (Ieee.double.fractionBits + 1038) = 2 ^ 16 * 2 ^ un := by rw [← Nat.pow_add, show Ieee.double.fractionBits + 1038 = 16 + un from rfl]
    have := hb.2
    rw [e] at this
    exact Nat.div_le_of_le_mul (by rw [Nat.mul_comm]; exact this)
  have hz : Ieee.Toward.zero.cut (sgn Ieee.double v) (mg Ieee.double (rung Ieee.double v) <<< (Ieee.double.leastPlace + (ex Ieee.double (rung Ieee.double v) : Int)).toNat) (-(Ieee.double.leastPlace + (ex Ieee.double (rung Ieee.double v) : Int))).toNat = mv Ieee.double (rung Ieee.double v) / 2 ^ un := by
    have ht := trunc_fin hb.1
    have hd : FloatKind.f64.decode v = .number (sgn Ieee.double v) (mg Ieee.double (rung Ieee.double v)) (Ieee.double.leastPlace + ex Ieee.double (rung Ieee.double v)) := read_fin hb.1
    rw [hd] at ht
    unfold Ieee.Datum.toInt Ieee.Datum.integral at ht
    simp only [Option.some.injEq] at ht
    generalize Ieee.Toward.zero.cut (sgn Ieee.double v) (mg Ieee.double (rung Ieee.double v) <<< (Ieee.double.leastPlace + (ex Ieee.double (rung Ieee.double v) : Int)).toNat) (-(Ieee.double.leastPlace + (ex Ieee.double (rung Ieee.double v) : Int))).toNat = N at *
    unfold toI Ieee.signed at ht
    simp only [Nat.shiftLeft_zero] at ht
    generalize mv Ieee.double (rung Ieee.double v) / 2 ^ un = M at *
    cases hs : sgn Ieee.double v <;> rw [hs] at ht <;> simp at ht <;> omega
  have hcut : ∀ (s : Bool) (n d : Nat), Ieee.Toward.down.cut s n d ≤ Ieee.Toward.zero.cut s n d + 1 := by
    intro s n d
    unfold Ieee.Toward.cut
    simp only [Bool.toNat_false, Nat.add_zero]
    have := Bool.toNat_le (s && (n % (1 <<< min d (n.log2 + 2)) != 0))
    omega
  have := hcut (sgn Ieee.double v) (mg Ieee.double (rung Ieee.double v) <<< (Ieee.double.leastPlace + (ex Ieee.double (rung Ieee.double v) : Int)).toNat) (-(Ieee.double.leastPlace + (ex Ieee.double (rung Ieee.double v) : Int))).toNat
  rw [hz] at this
  unfold floorN
  omega
theorem floorF_ok {v : Nat} (hb : Bd 1038 v) : FinW Ieee.double (floorF v) ∧ mv Ieee.double (rung Ieee.double (floorF v)) < 2 ^ 52 * 2 ^ un := by
  have hN := floorN_le hb
  have hN2 : floorN v < 2 ^ 52 := by omega
  have hmv : mv Ieee.double (rg Ieee.double (floorN v * 2 ^ un)) = floorN v * 2 ^ un := mv_rg Ieee.double _ (floorN v) un rfl (Nat.lt_trans hN2 (by decide))
  have hle : rg Ieee.double (floorN v * 2 ^ un) ≤ (1074 + 1) * Ieee.double.binade := by
    apply rg_le
    have e : 2 ^ (Ieee.double.fractionBits + 1074) = 2 ^ 52 * 2 ^ un := by rw [← Nat.pow_add, show Ieee.double.fractionBits + 1074 = 52 + un from rfl]
    rw [e]
    exact Nat.mul_le_mul_right _ (Nat.le_of_lt hN2)
  unfold floorF
  have hp : (0 : Int) = Ieee.double.leastPlace + (un : Int) := by rw [lp64, un_eq]; rfl
  rw [hp, near_V]
  generalize rg Ieee.double (floorN v * 2 ^ un) = R at *
  have hRi : R < Ieee.double.infRung := by rw [inf64]; rw [bin64] at hle; omega
  have hRs : R < Ieee.double.signWeight := by rw [sw64]; rw [inf64] at hRi; omega
  rw [Nat.min_eq_left (by omega)]
  constructor
  · unfold FinW; rw [rung_word _ _ hRs]; exact hRi
  · rw [rung_word _ _ hRs, hmv]
    exact Nat.mul_lt_mul_of_pos_right hN2 (Nat.two_pow_pos _)
theorem floorW (v : Nat) (w : World) (h : FinW Ieee.double v) : Calls Try.prog 69 #[.float .f64 v] w fun e w' => e = .returned (.float .f64 (floorF v)) ∧ w = w' := by
  have hr := run_floor v h
  go_enter Try.func69, Try.ntmps69
  go_wp2
  go_ret
  exact ⟨rfl, rfl⟩

/-! ### tenths of decibels -/
abbrev tenC : Nat := 4631308968768463603
abbrev halfC : Nat := 4602678819172646912
def tenV (y : Nat) : Nat := fop .add .f64 (fop .mul .f64 (logF y) tenC) halfC
theorem tenV_bd {y : Nat} (h1 : 3936146074321813504 ≤ y) (h2 : y < 5183643171103440896) : Bd 1037 (fop .mul .f64 (logF y) tenC) ∧ Bd 1038 (tenV y) := by
  have h := log_ok h1 h2
  have hc : Bd 1028 tenC := bd_lit (by decide +kernel)
  have hh : Bd 1022 halfC := bd_lit (by decide +kernel)
  have hm := bd_mul (c := 1037) h hc (by omega) (by omega)
  exact ⟨hm, (bd_sum hm (hh.mono (by omega)) (by omega)).1⟩
def tenI (x : Nat) : Int := toI (floorF (tenV (fconv .f32 x .f64)))
theorem spTen68 (x : Nat) (w : World) (hf : Fits .f32 x) (h : Pos x) : Calls Try.prog 68 #[.float .f32 x] w fun e w' => e = .returned (.int .i64 (tenI x)) ∧ ∃ n, w' = w.drewN n := by
  obtain ⟨x0, x1, x2, xf, lo, hi, yn⟩ := h
  obtain ⟨b1, b2⟩ := tenV_bd lo hi
  have HN := hid yn
  have HL := hid lo
  have HH := hid hi
  have HV := hid (bd_nan b2)
  have HF := hid b2.1
  obtain ⟨f1, f2⟩ := floorF_ok b2
  have hc : ∀ w, (convert 25 2 (.float .f64 (floorF (tenV (fconv .f32 x .f64))))).run Try.prog w = .ok (.int .i64 (tenI x)) w := fun w => run_convert_float_int w 25 2 .f64 .i64 _ _ u25 Try.underlying2 (toI_val f1 f2).1
  clear x0 x1 x2 xf lo hi yn b1 b2 f1 f2
  go_enter Try.func68, Try.ntmps68
  go_wp2_with (first | (refine wpList_up rfl _ _ _ rfl _ rfl hf u22 Try.underlying25 (Sim.refl _ _) ?_; intro r n hr hb; have hx := (sim_eq hr HN.out).symm; subst hx; clear hr) | (go_at_call 83; refine (spLogW _ _ HL.out HH.out).mono ?_; rintro e w' ⟨r, n, rfl, rfl, hr, hb⟩) | (refine wpList_fsim rfl .mul _ _ _ _ rfl rfl .f64 _ _ rfl rfl (by with_reducible assumption) (Sim.refl _ _) ?_; intro r n hr hb) | (refine wpList_fsim rfl .add _ _ _ _ rfl rfl .f64 _ _ rfl rfl (by with_reducible assumption) (Sim.refl _ _) ?_; intro r n hr hb; have hx := (sim_eq (show Sim .f64 r (tenV (fconv .f32 x .f64)) from hr) HV.out).symm; subst hx) | (go_at_call 69; refine (floorW _ _ HF.out).mono ?_; rintro e w' ⟨rfl, rfl⟩))
  go_ret
  exact ⟨rfl, _, rfl⟩
theorem specFinite (x : Nat) (w : World) : Calls Try.prog 67 #[.float .f32 x] w fun e w' => e = .returned (.bool (fin .f32 x)) ∧ ∃ n, w' = w.drewN n := by
  go_enter Try.func67, Try.ntmps67
  go_wp2_with (refine wpList_farith rfl .sub _ _ _ _ rfl rfl .f32 _ _ rfl rfl ?_; intro r n hr hb)
  go_ret
  exact ⟨by rw [← isFin_eq, isFin, ← order_congr hr (Sim.refl _ _)]; rfl, n, rfl⟩
theorem spTenPos (x : Nat) (w : World) (hf : Fits .f32 x) (h : Pos x) : Calls Try.prog 38 #[.float .f32 x] w fun e w' => e = .returned (.tuple #[.int .i64 (tenI x), .bool true]) ∧ ∃ n, w' = w.drewN n := by
  have xf := h.xf
  have xl : (FloatKind.f32.format.order x 0 == some .lt || FloatKind.f32.format.order x 0 == some .eq) = false := by rw [h.x0, h.x1]; rfl
  have H := hid h
  clear h
  go_enter Try.func38, Try.ntmps38
  go_wp2_with (first | (go_at_call 67; refine (specFinite _ _).mono ?_; rintro e w' ⟨rfl, n, rfl⟩) | (go_at_call 68; refine (spTen68 _ _ hf H.out).mono ?_; rintro e w' ⟨rfl, n, rfl⟩))
  go_ret2
  exact ⟨rfl, _, rfl⟩
theorem imTenPos (x : Nat) (w : World) (hf : Fits .f32 x) (h : Pos x) : Calls Try.prog 39 #[.float .f32 x] w fun e w' => e = .returned (.tuple #[.int .i64 (tenI x), .bool true]) ∧ ∃ n, w' = w.drewN n := by
  have xl : (FloatKind.f32.format.order x 0 == some .lt || FloatKind.f32.format.order x 0 == some .eq) = false := by rw [h.x0, h.x1]; rfl
  obtain ⟨x0, x1, x2, xf, lo, hi, yn⟩ := h
  obtain ⟨b1, b2⟩ := tenV_bd lo hi
  have HN := hid yn
  have HL := hid lo
  have HH := hid hi
  have HV := hid (bd_nan b2)
  have HF := hid b2.1
  obtain ⟨f1, f2⟩ := floorF_ok b2
  have hc : ∀ w, (convert 25 2 (.float .f64 (floorF (tenV (fconv .f32 x .f64))))).run Try.prog w = .ok (.int .i64 (tenI x)) w := fun w => run_convert_float_int w 25 2 .f64 .i64 _ _ u25 Try.underlying2 (toI_val f1 f2).1
  clear x0 x1 x2 lo hi yn b1 b2 f1 f2
  go_enter Try.func39, Try.ntmps39
  go_wp2_with (first | (go_at_call 56; refine (implFinite _ _).mono ?_; rintro e w' ⟨rfl, n, rfl⟩) | (refine wpList_up rfl _ _ _ rfl _ rfl hf u22 Try.underlying25 (Sim.refl _ _) ?_; intro r n hr hb; have hx := (sim_eq hr HN.out).symm; subst hx; clear hr) | (go_at_call 57; refine (natLogW _ _ HL.out HH.out).mono ?_; rintro e w' ⟨r, n, rfl, rfl, hr, hb⟩) | (refine wpList_fsim rfl .mul _ _ _ _ rfl rfl .f64 _ _ rfl rfl (by with_reducible assumption) (Sim.refl _ _) ?_; intro r n hr hb) | (refine wpList_fsim rfl .add _ _ _ _ rfl rfl .f64 _ _ rfl rfl (by with_reducible assumption) (Sim.refl _ _) ?_; intro r n hr hb; have hx := (sim_eq (show Sim .f64 r (tenV (fconv .f32 x .f64)) from hr) HV.out).symm; subst hx) | (go_at_call 69; refine (floorW _ _ HF.out).mono ?_; rintro e w' ⟨rfl, rfl⟩))
  go_ret2
  exact ⟨rfl, _, rfl⟩
/-- Not finite, or not above zero. -/
def NoTen (x : Nat) : Prop := fin .f32 x = false ∨ (fin .f32 x = true ∧ (FloatKind.f32.format.order x 0 == some .lt || FloatKind.f32.format.order x 0 == some .eq) = true)
theorem spTenNo (x : Nat) (w : World) (h : NoTen x) : Calls Try.prog 38 #[.float .f32 x] w fun e w' => e = .returned (.tuple #[.int .i64 0, .bool false]) ∧ ∃ n, w' = w.drewN n := by
  rcases h with h | ⟨h, h2⟩
  all_goals
    go_enter Try.func38, Try.ntmps38
    go_wp2_with (go_at_call 67; refine (specFinite _ _).mono ?_; rintro e w' ⟨rfl, n, rfl⟩)
    go_ret2
    exact ⟨rfl, _, rfl⟩
theorem imTenNo (x : Nat) (w : World) (h : NoTen x) : Calls Try.prog 39 #[.float .f32 x] w fun e w' => e = .returned (.tuple #[.int .i64 0, .bool false]) ∧ ∃ n, w' = w.drewN n := by
  rcases h with h | ⟨h, h2⟩
  all_goals
    go_enter Try.func39, Try.ntmps39
    go_wp2_with (go_at_call 56; refine (implFinite _ _).mono ?_; rintro e w' ⟨rfl, n, rfl⟩)
    go_ret2
    exact ⟨rfl, _, rfl⟩
theorem tenAll (x : Nat) (hf : Fits .f32 x) : ∃ (t : Int) (b : Bool), (∀ w, Calls Try.prog 38 #[.float .f32 x] w fun e w' => e = .returned (.tuple #[.int .i64 t, .bool b]) ∧ ∃ n, w' = w.drewN n) ∧ (∀ w, Calls Try.prog 39 #[.float .f32 x] w fun e w' => e = .returned (.tuple #[.int .i64 t, .bool b]) ∧ ∃ n, w' = w.drewN n) := by
  have no : NoTen x → ∃ (t : Int) (b : Bool), (∀ w, Calls Try.prog 38 #[.float .f32 x] w fun e w' => e = .returned (.tuple #[.int .i64 t, .bool b]) ∧ ∃ n, w' = w.drewN n) ∧ (∀ w, Calls Try.prog 39 #[.float .f32 x] w fun e w' => e = .returned (.tuple #[.int .i64 t, .bool b]) ∧ ∃ n, w' = w.drewN n) :=
    fun h => ⟨0, false, fun w => spTenNo x w h, fun w => imTenNo x w h⟩
  cases hfin : fin .f32 x
  · exact no (.inl hfin)
  · rcases kinds x hf with h | h | h | h | h
    · rw [nan_iff] at h
      have h2 := of_decide_eq_true h
      have h3 := fin_iff.1 hfin
      unfold FinW at h3; omega
    · exact no (.inr ⟨hfin, by rw [h.x0]; simp⟩)
    · exact no (.inr ⟨hfin, by rw [h.x1]; rfl⟩)
    · rw [h.xf] at hfin; cases hfin
    · exact ⟨tenI x, true, fun w => spTenPos x w hf h, fun w => imTenPos x w hf h⟩
theorem fnExactTenthsOf (x : Nat) (w : World) (hx : (Lit.float .f32 x).wf = true) : Calls Try.prog 12 #[.float .f32 x] w fun e w' => e = .returned (.bool true) ∧ Below w.heap.size w w' := by
  have hf := fits_of_wf hx
  obtain ⟨t, b, h1, h2⟩ := tenAll x hf
  have H1 := hid h1
  have H2 := hid h2
  clear hx h1 h2
  go_enter Try.func12, Try.ntmps12
  go_wp2_with (first | (go_at_call 38; refine (H1.out _).mono ?_; rintro e w' ⟨rfl, n, rfl⟩) | (go_at_call 39; refine (H2.out _).mono ?_; rintro e w' ⟨rfl, n, rfl⟩))
  go_ret
  exact ⟨rfl, below_drewN (Below.refl _ _) _⟩
end TryWalk
end Go.Proofs.Ytlabbakmlanfgaa
