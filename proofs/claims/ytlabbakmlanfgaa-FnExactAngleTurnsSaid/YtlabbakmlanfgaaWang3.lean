/- The law on AngleTurns. No condition. -/
import Derived.Test.YtlabbakmlanfgaaWang2
namespace Go.Proofs.Ytlabbakmlanfgaa
open Go.RowKit Flo Iee
set_option linter.unusedVariables false
namespace TryWalk
/-- A finite small-kind float stands to zero as its great-kind self does. -/
theorem order_up {x : Nat} (h : FinW Ieee.single x) : FloatKind.f64.format.order (fconv .f32 x .f64) 0 = FloatKind.f32.format.order x 0 := by
  obtain ⟨g1, g2, g3, g4⟩ := fconv_up h
  rw [order_fin (f := FloatKind.f64.format) g1 (fin_zero .f64), order_fin (f := FloatKind.f32.format) h (fin_zero .f32), sv_zero, sv_zero]
  have e : sv FloatKind.f64.format (fconv .f32 x .f64) = sv FloatKind.f32.format x * (2 ^ sh : Nat) := g2
  rw [e]
  have := cmp_scale (sv FloatKind.f32.format x) 0 sh
  rw [Int.zero_mul] at this
  rw [this]
theorem over_nan {s k : FloatKind} {x : Nat} (h : NaN s x = true) : over s x k = false := by simp [over, h]
theorem nan_over : over .f64 9221120237041090561 .f32 = false := over_nan nanW_nan
theorem notfin_up {x : Nat} (h : fin .f32 x = false) : fin .f64 (fconv .f32 x .f64) = false := by
  rcases three .f32 x with g | g | g
  · rw [fin_iff.2 g] at h; cases h
  · have hc := conv_inf (s := .f32) (k := .f64) (by decide) g
    have e : fconv .f32 x .f64 = FloatKind.f64.format.word (sgn FloatKind.f32.format x) FloatKind.f64.format.infRung := by simp [fconv, hc]
    have hi : FloatKind.f64.format.infRung < FloatKind.f64.format.signWeight := Ieee.Format.infRung_lt _
    rw [e, fin, rung_word _ _ hi]; simp
  · have := nan_fconv (s := .f32) (k := .f64) (by decide) g
    rw [nan_iff] at this
    have h2 := of_decide_eq_true this
    simp [fin]; omega
theorem sub_fin_eq (k : FloatKind) (y : Nat) : (k.format.order (fop .sub k y y) 0 != some .eq) = !fin k y := by
  have := isFin_eq k y
  unfold isFin at this
  rw [bne, this]

/-- What the angle of a point is, both ways. -/
def AngS (y x F : Nat) : Prop := (∀ w, Calls Try.prog 70 #[.float .f32 y, .float .f32 x] w (RetF .f32 F w)) ∧ ∀ w, Calls Try.prog 41 #[.float .f32 y, .float .f32 x] w (RetF .f32 F w)
theorem sp86nan (r q Y X : Nat) (w : World) (hs : Sim .f64 r Y) (ht : Sim .f64 q X) (b : Bool) (hY : (!fin .f64 Y) = b) (hX : b = false → (!fin .f64 X) = true) : Calls Try.prog 86 #[.float .f64 r, .float .f64 q] w fun e w' => e = .returned (.float .f64 9221120237041090561) ∧ ∃ n, w' = w.drewN n := by
  have t1 := sub_fin_eq .f64 Y
  have t2 := sub_fin_eq .f64 X
  rw [hY] at t1
  cases b
  · rw [hX rfl] at t2
    clear hX hY
    go_enter Try.func86, Try.ntmps86
    go_wp2_with (first | (go_at_call 55; refine (nanW _).mono ?_; rintro e w' ⟨rfl, rfl⟩) | (refine wpList_fsim rfl .sub _ _ _ _ rfl rfl .f64 _ _ rfl rfl (by with_reducible assumption) (by with_reducible assumption) ?_; intro r n hr hb; have ht0 := order_congr hr (Sim.refl .f64 0)))
    go_ret
    exact ⟨rfl, _, rfl⟩
  · clear hX hY t2
    go_enter Try.func86, Try.ntmps86
    go_wp2_with (first | (go_at_call 55; refine (nanW _).mono ?_; rintro e w' ⟨rfl, rfl⟩) | (refine wpList_fsim rfl .sub _ _ _ _ rfl rfl .f64 _ _ rfl rfl (by with_reducible assumption) (by with_reducible assumption) ?_; intro r n hr hb; have ht0 := order_congr hr (Sim.refl .f64 0)))
    go_ret
    exact ⟨rfl, _, rfl⟩
theorem angNan (y x : Nat) (hy : Fits .f32 y) (hx : Fits .f32 x) (h : fin .f32 y = false ∨ fin .f32 x = false) : AngS y x (fconv .f64 9221120237041090561 .f32) := by
  refine ⟨fun w => ?_, fun w => ?_⟩
  · have HX : ∀ b, (!fin .f64 (fconv .f32 y .f64)) = b → b = false → (!fin .f64 (fconv .f32 x .f64)) = true := by
      intro b hb hbf
      rw [hbf] at hb
      rcases h with h | h
      · rw [notfin_up h] at hb; cases hb
      · rw [notfin_up h]; rfl
    have H := hid HX
    clear HX h
    go_enter Try.func70, Try.ntmps70
    go_wp2_with (first | (refine wpList_up rfl _ _ _ rfl _ rfl (by with_reducible assumption) u22 Try.underlying25 (Sim.refl _ _) ?_; intro r n hr hb) | (go_at_call 86; refine (sp86nan _ _ _ _ _ (by with_reducible assumption) (by with_reducible assumption) _ rfl (H.out _ rfl)).mono ?_; rintro e w' ⟨rfl, n, rfl⟩) | (go_at_call 79; refine (narrowW _ _ _ (Sim.refl _ _) nanW_fits nan_over).mono ?_; rintro e w' ⟨r, n, rfl, rfl, hr, hb⟩))
    go_ret
    exact ⟨_, _, rfl, rfl, hr, hb⟩
  · cases hfx : fin .f32 x
    · go_enter Try.func41, Try.ntmps41
      go_wp2_with (first | (go_at_call 56; refine (implFinite _ _).mono ?_; rintro e w' ⟨rfl, n, rfl⟩) | (go_at_call 55; refine (nanW _).mono ?_; rintro e w' ⟨rfl, rfl⟩) | (refine wpList_fcsim rfl _ _ _ rfl .f64 .f32 _ rfl nanW_fits u25 Try.underlying22 (by decide) (Sim.refl _ _) ?_; intro r n hr hb))
      go_ret
      exact ⟨_, _, rfl, rfl, hr nan_over, hb⟩
    · have hfy : fin .f32 y = false := by
        rcases h with h | h
        · exact h
        · rw [hfx] at h; cases h
      clear h
      go_enter Try.func41, Try.ntmps41
      go_wp2_with (first | (go_at_call 56; refine (implFinite _ _).mono ?_; rintro e w' ⟨rfl, n, rfl⟩) | (go_at_call 55; refine (nanW _).mono ?_; rintro e w' ⟨rfl, rfl⟩) | (refine wpList_fcsim rfl _ _ _ rfl .f64 .f32 _ rfl nanW_fits u25 Try.underlying22 (by decide) (Sim.refl _ _) ?_; intro r n hr hb))
      go_ret
      exact ⟨_, _, rfl, rfl, hr nan_over, hb⟩
theorem sp86zero (y x : Nat) (w : World) (gy : FinW Ieee.double y) (gx : FinW Ieee.double x) (hx : (FloatKind.f64.format.order x 0 == some .eq) = true) (hy : (FloatKind.f64.format.order y 0 == some .eq) = true) : Calls Try.prog 86 #[.float .f64 y, .float .f64 x] w fun e w' => e = .returned (.float .f64 0) ∧ ∃ n, w' = w.drewN n := by
  have t0x := fin_neq gx
  have t0y := fin_neq gy
  clear gx gy
  go_enter Try.func86, Try.ntmps86
  go_wp2_with (refine wpList_fsim rfl .sub _ _ _ _ rfl rfl .f64 _ _ rfl rfl (Sim.refl _ _) (Sim.refl _ _) ?_; intro r n hr hb; have ht0 := order_congr hr (Sim.refl .f64 0))
  go_ret
  exact ⟨rfl, _, rfl⟩
theorem angZero (y x : Nat) (hy : Fits .f32 y) (hx : Fits .f32 x) (gy : FinW Ieee.single y) (gx : FinW Ieee.single x) (zx : (FloatKind.f32.format.order x 0 == some .eq) = true) (zy : (FloatKind.f32.format.order y 0 == some .eq) = true) : AngS y x (fconv .f64 0 .f32) := by
  have ex := order_up gx
  have ey := order_up gy
  refine ⟨fun w => ?_, fun w => ?_⟩
  · have zx' : (FloatKind.f64.format.order (fconv .f32 x .f64) 0 == some .eq) = true := by rw [ex]; exact zx
    have zy' : (FloatKind.f64.format.order (fconv .f32 y .f64) 0 == some .eq) = true := by rw [ey]; exact zy
    have HNx := hid (nan_of_fin (k := .f64) (fconv_up gx).1)
    have HNy := hid (nan_of_fin (k := .f64) (fconv_up gy).1)
    have H := hid (sp86zero _ _ · (fconv_up gy).1 (fconv_up gx).1 zx' zy')
    clear ex ey zx zy zx' zy' gx gy
    go_enter Try.func70, Try.ntmps70
    go_wp2_with (first | (refine wpList_up rfl _ _ _ rfl _ rfl (by with_reducible assumption) u22 Try.underlying25 (Sim.refl _ _) ?_; intro r n hr hb; first | (have hx := (sim_eq hr HNx.out).symm; subst hx; clear hr) | (have hx := (sim_eq hr HNy.out).symm; subst hx; clear hr)) | (go_at_call 86; refine (H.out _).mono ?_; rintro e w' ⟨rfl, n, rfl⟩) | (go_at_call 79; refine (narrowW 0 0 _ (Sim.refl _ _) (fits_of_wf (by decide)) (by decide +kernel)).mono ?_; rintro e w' ⟨r, n, rfl, rfl, hr, hb⟩))
    go_ret
    exact ⟨_, _, rfl, rfl, hr, hb⟩
  · have hfx := fin_iff (k := .f32).2 gx
    have hfy := fin_iff (k := .f32).2 gy
    clear ex ey gx gy
    go_enter Try.func41, Try.ntmps41
    go_wp2_with (go_at_call 56; refine (implFinite _ _).mono ?_; rintro e w' ⟨rfl, n, rfl⟩)
    go_ret
    exact ⟨0, _, rfl, rfl, .inl (by decide +kernel), fits_of_wf (by decide)⟩
theorem imAng (o sx sy : Bool) (x y : Nat) (w : World) (hfx : Fits .f32 x) (hfy : Fits .f32 y) (gx : FinW Ieee.double (fconv .f32 x .f64)) (gy : FinW Ieee.double (fconv .f32 y .f64)) (ho : (FloatKind.f64.format.order (fconv .f32 y .f64 % 9223372036854775808) (fconv .f32 x .f64 % 9223372036854775808) == some .gt) = o) (hfinx : fin .f32 x = true) (hfiny : fin .f32 y = true) (hsx : (FloatKind.f32.format.order x 0 == some .lt) = sx) (hsy : (FloatKind.f32.format.order y 0 == some .lt) = sy) (hz : (FloatKind.f32.format.order x 0 == some .eq) = true → (FloatKind.f32.format.order y 0 == some .eq) = false)
    (T : Nat) (hT : T = if o then fop .quo .f64 (fconv .f32 x .f64 % 9223372036854775808) (fconv .f32 y .f64 % 9223372036854775808) else fop .quo .f64 (fconv .f32 y .f64 % 9223372036854775808) (fconv .f32 x .f64 % 9223372036854775808)) (hov : over .f64 (An3 o sx sy T) .f32 = false) : Calls Try.prog 41 #[.float .f32 y, .float .f32 x] w (RetF .f32 (fconv .f64 (An3 o sx sy T) .f32) w) := by
  cases o <;> simp only [Bool.false_eq_true, if_false, if_true] at hT <;> subst hT <;> cases sx <;> cases sy
  · exact imAng000 x y w hfx hfy gx gy ho hfinx hfiny hsx hsy _ rfl hz hov
  · exact imAng001 x y w hfx hfy gx gy ho hfinx hfiny hsx hsy _ rfl hz hov
  · exact imAng010 x y w hfx hfy gx gy ho hfinx hfiny hsx hsy _ rfl hz hov
  · exact imAng011 x y w hfx hfy gx gy ho hfinx hfiny hsx hsy _ rfl hz hov
  · exact imAng100 x y w hfx hfy gx gy ho hfinx hfiny hsx hsy _ rfl hz hov
  · exact imAng101 x y w hfx hfy gx gy ho hfinx hfiny hsx hsy _ rfl hz hov
  · exact imAng110 x y w hfx hfy gx gy ho hfinx hfiny hsx hsy _ rfl hz hov
  · exact imAng111 x y w hfx hfy gx gy ho hfinx hfiny hsx hsy _ rfl hz hov
theorem spAng (o sx sy : Bool) (x y : Nat) (w : World) (hfx : Fits .f32 x) (hfy : Fits .f32 y) (gx : FinW Ieee.double (fconv .f32 x .f64)) (gy : FinW Ieee.double (fconv .f32 y .f64)) (ho : (FloatKind.f64.format.order (fconv .f32 y .f64 % 9223372036854775808) (fconv .f32 x .f64 % 9223372036854775808) == some .gt) = o) (hsx : (FloatKind.f64.format.order (fconv .f32 x .f64) 0 == some .lt) = sx) (hsy : (FloatKind.f64.format.order (fconv .f32 y .f64) 0 == some .lt) = sy) (hz : (FloatKind.f64.format.order (fconv .f32 x .f64) 0 == some .eq) = true → (FloatKind.f64.format.order (fconv .f32 y .f64) 0 == some .eq) = false)
    (T : Nat) (hT : T = if o then fop .quo .f64 (fconv .f32 x .f64 % 9223372036854775808) (fconv .f32 y .f64 % 9223372036854775808) else fop .quo .f64 (fconv .f32 y .f64 % 9223372036854775808) (fconv .f32 x .f64 % 9223372036854775808)) : Calls Try.prog 86 #[.float .f64 (fconv .f32 y .f64), .float .f64 (fconv .f32 x .f64)] w (RetF .f64 (An3 o sx sy T) w) := by
  cases o <;> simp only [Bool.false_eq_true, if_false, if_true] at hT <;> subst hT <;> cases sx <;> cases sy
  · exact spAng000 x y w hfx hfy gx gy ho hsx hsy _ rfl hz
  · exact spAng001 x y w hfx hfy gx gy ho hsx hsy _ rfl hz
  · exact spAng010 x y w hfx hfy gx gy ho hsx hsy _ rfl hz
  · exact spAng011 x y w hfx hfy gx gy ho hsx hsy _ rfl hz
  · exact spAng100 x y w hfx hfy gx gy ho hsx hsy _ rfl hz
  · exact spAng101 x y w hfx hfy gx gy ho hsx hsy _ rfl hz
  · exact spAng110 x y w hfx hfy gx gy ho hsx hsy _ rfl hz
  · exact spAng111 x y w hfx hfy gx gy ho hsx hsy _ rfl hz
theorem abs_fin {y : Nat} (h : FinW Ieee.double y) : FinW Ieee.double (y % 9223372036854775808) := by
  have := (abs_rung y).1
  unfold FinW
  rw [show rung Ieee.double (y % 9223372036854775808) = rung Ieee.double y from this]
  exact h
theorem angMain (y x : Nat) (hy : Fits .f32 y) (hx : Fits .f32 x) (gy : FinW Ieee.single y) (gx : FinW Ieee.single x) (hz : (FloatKind.f32.format.order x 0 == some .eq) = true → (FloatKind.f32.format.order y 0 == some .eq) = false) : ∃ F, AngS y x F := by
  have ex := order_up gx
  have ey := order_up gy
  have ux := fconv_up gx
  have uy := fconv_up gy
  obtain ⟨o, ho⟩ : ∃ o, (FloatKind.f64.format.order (fconv .f32 y .f64 % 9223372036854775808) (fconv .f32 x .f64 % 9223372036854775808) == some .gt) = o := ⟨_, rfl⟩
  obtain ⟨sx, hsx⟩ : ∃ o, (FloatKind.f32.format.order x 0 == some .lt) = o := ⟨_, rfl⟩
  obtain ⟨sy, hsy⟩ : ∃ o, (FloatKind.f32.format.order y 0 == some .lt) = o := ⟨_, rfl⟩
  obtain ⟨T, hT⟩ : ∃ T, T = if o then fop .quo .f64 (fconv .f32 x .f64 % 9223372036854775808) (fconv .f32 y .f64 % 9223372036854775808) else fop .quo .f64 (fconv .f32 y .f64 % 9223372036854775808) (fconv .f32 x .f64 % 9223372036854775808) := ⟨_, rfl⟩
  have hbd : Bd 1022 T := by
    have fA := abs_fin uy.1
    have fB := abs_fin ux.1
    have hgt := gt_fin (k := .f64) fA fB
    rw [ho, abs_sv, abs_sv] at hgt
    have rA : rung Ieee.double (fconv .f32 y .f64 % 9223372036854775808) = rung Ieee.double (fconv .f32 y .f64) := (abs_rung _).1
    have rB : rung Ieee.double (fconv .f32 x .f64 % 9223372036854775808) = rung Ieee.double (fconv .f32 x .f64) := (abs_rung _).1
    cases o
    · have hle := of_decide_eq_false hgt.symm
      have hle' : mv Ieee.double (rung Ieee.double (fconv .f32 y .f64)) ≤ mv Ieee.double (rung Ieee.double (fconv .f32 x .f64)) := by
        exact Int.ofNat_le.1 (Int.not_lt.1 hle)
      rw [hT]
      simp only [Bool.false_eq_true, if_false]
      refine quo_one fA fB ?_ (by rw [rA, rB]; exact hle')
      rw [rB]
      intro h0
      have hx0 : (FloatKind.f32.format.order x 0 == some .eq) = true := by
        rw [← ex, order_zero (k := .f64) ux.1]
        exact decide_eq_true h0
      have hy0 := hz hx0
      rw [← ey, order_zero (k := .f64) uy.1] at hy0
      have h1 := of_decide_eq_false hy0
      apply h1
      have m0 := (mv_eq_zero Ieee.double _).2 h0
      rw [m0] at hle'
      exact (mv_eq_zero Ieee.double _).1 (Nat.le_zero.1 hle')
    · have hlt := of_decide_eq_true hgt.symm
      have hlt' : mv Ieee.double (rung Ieee.double (fconv .f32 x .f64)) < mv Ieee.double (rung Ieee.double (fconv .f32 y .f64)) := by
        exact Int.ofNat_lt.1 hlt
      rw [hT]
      simp only [if_true]
      refine quo_one fB fA ?_ (by rw [rA, rB]; exact Nat.le_of_lt hlt')
      rw [rA]
      intro h0
      have m0 := (mv_eq_zero Ieee.double _).2 h0
      omega
  have hov := bd_over (An3_bd o sx sy hbd) (by omega)
  refine ⟨fconv .f64 (An3 o sx sy T) .f32, fun w => ?_, fun w => imAng o sx sy x y w hx hy ux.1 uy.1 ho (fin_iff (k := .f32).2 gx) (fin_iff (k := .f32).2 gy) hsx hsy hz T hT hov⟩
  have HNx := hid (nan_of_fin (k := .f64) ux.1)
  have HNy := hid (nan_of_fin (k := .f64) uy.1)
  have H := hid (spAng o sx sy x y · hx hy ux.1 uy.1 ho (by rw [ex]; exact hsx) (by rw [ey]; exact hsy) (by rw [ex, ey]; exact hz) T hT)
  have HO := hid hov
  clear ex ey ux uy ho hsx hsy hz hT hbd hov gx gy
  go_enter Try.func70, Try.ntmps70
  go_wp2_with (first | (refine wpList_up rfl _ _ _ rfl _ rfl (by with_reducible assumption) u22 Try.underlying25 (Sim.refl _ _) ?_; intro r n hr hb; first | (have hx := (sim_eq hr HNx.out).symm; subst hx; clear hr) | (have hx := (sim_eq hr HNy.out).symm; subst hx; clear hr)) | (go_at_call 86; refine (H.out _).mono ?_; rintro e w' ⟨r, n, rfl, rfl, hr, hb⟩) | (go_at_call 79; refine (narrowW _ _ _ (by with_reducible assumption) (by with_reducible assumption) HO.out).mono ?_; rintro e w' ⟨r, n, rfl, rfl, hr, hb⟩))
  go_ret
  exact ⟨_, _, rfl, rfl, hr, hb⟩
theorem angAll (y x : Nat) (hy : Fits .f32 y) (hx : Fits .f32 x) : ∃ F, AngS y x F := by
  cases hfy : fin .f32 y
  · exact ⟨_, angNan y x hy hx (.inl hfy)⟩
  · cases hfx : fin .f32 x
    · exact ⟨_, angNan y x hy hx (.inr hfx)⟩
    · cases zx : (FloatKind.f32.format.order x 0 == some .eq)
      · exact angMain y x hy hx (fin_iff.1 hfy) (fin_iff.1 hfx) (fun h => by rw [zx] at h; cases h)
      · cases zy : (FloatKind.f32.format.order y 0 == some .eq)
        · exact angMain y x hy hx (fin_iff.1 hfy) (fin_iff.1 hfx) (fun _ => zy)
        · exact ⟨_, angZero y x hy hx (fin_iff.1 hfy) (fin_iff.1 hfx) zx zy⟩
theorem fnExactAngleTurns (y x : Nat) (w : World) (hwy : (Lit.float .f32 y).wf = true) (hwx : (Lit.float .f32 x).wf = true) : Calls Try.prog 13 #[.float .f32 y, .float .f32 x] w fun e w' => e = .returned (.bool true) ∧ Below w.heap.size w w' := by
  obtain ⟨F, hF⟩ := angAll y x (fits_of_wf hwy) (fits_of_wf hwx)
  have H := hid hF
  clear hwy hwx hF
  have h40 : ∀ w, Calls Try.prog 40 #[.float .f32 y, .float .f32 x] w (RetF .f32 F w) := by
    intro w
    go_enter Try.func40, Try.ntmps40
    go_wp2_with (go_at_call 70; refine (H.out.1 _).mono ?_; rintro e w' ⟨r, n, rfl, rfl, hr, hb⟩)
    go_ret
    exact ⟨_, _, rfl, rfl, hr, hb⟩
  have H40 := hid h40
  clear h40
  go_enter Try.func13, Try.ntmps13
  go_wp2_with (first | (go_at_call 40; refine (H40.out _).mono ?_; rintro e w' ⟨r, n, rfl, rfl, hr, hb⟩) | (go_at_call 41; refine (H.out.2 _).mono ?_; rintro e w' ⟨r, n, rfl, rfl, hr, hb⟩) | (refine wpList_up rfl _ _ _ rfl _ rfl (by with_reducible assumption) u22 Try.underlying25 (by with_reducible assumption) ?_; intro r n hr hb) | (go_at_call 17; refine (sameFloat _ _ _ (Sim.trans (by with_reducible assumption) (Sim.symm (by with_reducible assumption)))).mono ?_; rintro e w' ⟨rfl, n, rfl⟩))
  go_ret
  exact ⟨rfl, below_drewN (Below.refl _ _) _⟩
end TryWalk
end Go.Proofs.Ytlabbakmlanfgaa
