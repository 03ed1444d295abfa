/- The law on phasors: the walks of the parts. No condition. -/
import Derived.Test.YtlabbakmlanfgaaKc2
import Derived.Test.YtlabbakmlanfgaaWpw
namespace Go.Proofs.Ytlabbakmlanfgaa
open Go.RowKit Flo Iee Sl Kf
set_option linter.unusedVariables false
namespace TryWalk
theorem partsW (a b A B : Nat) (w : World) (hfa : Fits .f32 a) (hfb : Fits .f32 b) (hA : fconv .f32 a .f64 = A) (hB : fconv .f32 b .f64 = B) (nA : NaN .f64 A = false) (nB : NaN .f64 B = false) :
    Calls Try.prog 72 #[.complex .f32 a b] w fun e w' => e = .returned (.tuple #[.float .f64 A, .float .f64 B]) ∧ ∃ n, w' = w.drewN n := by
  have HA := hid hA
  have HB := hid hB
  have NA := hid nA
  have NB := hid nB
  clear hA hB nA nB
  go_enter Try.func72, Try.ntmps72
  go_wp2_with (first
    | (refine wpList_up rfl _ _ _ rfl a rfl hfa u22 Try.underlying25 (Sim.refl _ _) ?_; intro r n hr hb; rw [HA.out] at hr; obtain rfl := sim_eq hr NA.out; clear hr hb)
    | (refine wpList_up rfl _ _ _ rfl b rfl hfb u22 Try.underlying25 (Sim.refl _ _) ?_; intro r n hr hb; rw [HB.out] at hr; obtain rfl := sim_eq hr NB.out; clear hr hb))
  go_ret2
  exact ⟨rfl, _, rfl⟩
def mU (a b c d : Nat) : Nat := fop .sub .f64 (fop .mul .f64 a c) (fop .mul .f64 b d)
def mV (a b c d : Nat) : Nat := fop .add .f64 (fop .mul .f64 a d) (fop .mul .f64 b c)
theorem timesW (a b c d : Nat) (w : World) : Calls Try.prog 73 #[.float .f64 a, .float .f64 b, .float .f64 c, .float .f64 d] w fun e w' => ∃ u v n, e = .returned (.tuple #[.float .f64 u, .float .f64 v]) ∧ w' = w.drewN n ∧ Sim .f64 u (mU a b c d) ∧ Sim .f64 v (mV a b c d) ∧ Fits .f64 u ∧ Fits .f64 v := by
  go_enter Try.func73, Try.ntmps73
  go_wp2_with (refine wpList_fsim rfl _ _ _ _ _ rfl rfl .f64 _ _ rfl rfl (by first | with_reducible assumption | exact Sim.refl _ _) (by first | with_reducible assumption | exact Sim.refl _ _) ?_; intro r n hr hb)
  go_ret2
  exact ⟨_, _, _, rfl, rfl, by unfold mU; with_reducible assumption, by unfold mV; with_reducible assumption, by with_reducible assumption, by with_reducible assumption⟩
theorem mulW (a b c d A B C D : Nat) (w : World) (hfa : Fits .f32 a) (hfb : Fits .f32 b) (hfc : Fits .f32 c) (hfd : Fits .f32 d) (hA : fconv .f32 a .f64 = A) (hB : fconv .f32 b .f64 = B) (hC : fconv .f32 c .f64 = C) (hD : fconv .f32 d .f64 = D)
    (nA : NaN .f64 A = false) (nB : NaN .f64 B = false) (nC : NaN .f64 C = false) (nD : NaN .f64 D = false) (ou : over .f64 (mU A B C D) .f32 = false) (ov : over .f64 (mV A B C D) .f32 = false) :
    Calls Try.prog 45 #[.complex .f32 a b, .complex .f32 c d] w (RetC (fconv .f64 (mU A B C D) .f32, fconv .f64 (mV A B C D) .f32) w) := by
  have P1 := hid (fun w => partsW a b A B w hfa hfb hA hB nA nB)
  have P2 := hid (fun w => partsW c d C D w hfc hfd hC hD nC nD)
  have OU := hid ou
  have OV := hid ov
  clear hfa hfb hfc hfd hA hB hC hD nA nB nC nD ou ov
  go_enter Try.func45, Try.ntmps45
  go_wp2_with fail
  refine (P1.out _).mono ?_
  rintro e w' ⟨rfl, n, rfl⟩
  go_wp2_with fail
  refine (P2.out _).mono ?_
  rintro e w' ⟨rfl, n, rfl⟩
  go_wp2_with fail
  refine (timesW _ _ _ _ _).mono ?_
  rintro e w' ⟨u, v, n, rfl, rfl, hu, hv, fu, fv⟩
  go_wp2_with (first
    | (refine wpList_fcsim rfl _ _ _ rfl .f64 .f32 u rfl fu some25 Try.underlying22 (by decide) hu ?_; intro r n hr hb; have hr1 := hr OU.out; clear hr)
    | (refine wpList_fcsim rfl _ _ _ rfl .f64 .f32 v rfl fv some25 Try.underlying22 (by decide) hv ?_; intro r n hr hb; have hr2 := hr OV.out; clear hr))
  go_ret
  exact ⟨_, _, _, rfl, rfl, hr1, hr2, by with_reducible assumption, by with_reducible assumption⟩
def pW (a b : Nat) : Nat := fop .add .f64 (fop .mul .f64 a a) (fop .mul .f64 b b)
theorem powW (a b A B : Nat) (w : World) (hfa : Fits .f32 a) (hfb : Fits .f32 b) (hA : fconv .f32 a .f64 = A) (hB : fconv .f32 b .f64 = B) (nA : NaN .f64 A = false) (nB : NaN .f64 B = false) :
    Calls Try.prog 71 #[.complex .f32 a b] w (RetF .f64 (pW A B) w) := by
  have P1 := hid (fun w => partsW a b A B w hfa hfb hA hB nA nB)
  clear hfa hfb hA hB nA nB
  go_enter Try.func71, Try.ntmps71
  go_wp2_with fail
  refine (P1.out _).mono ?_
  rintro e w' ⟨rfl, n, rfl⟩
  go_wp2_with (refine wpList_fsim rfl _ _ _ _ _ rfl rfl .f64 _ _ rfl rfl (by first | with_reducible assumption | exact Sim.refl _ _) (by first | with_reducible assumption | exact Sim.refl _ _) ?_; intro r n hr hb)
  go_ret
  exact ⟨_, _, rfl, rfl, by unfold pW; with_reducible assumption, by with_reducible assumption⟩
theorem powerW (a b A B : Nat) (w : World) (hfa : Fits .f32 a) (hfb : Fits .f32 b) (hA : fconv .f32 a .f64 = A) (hB : fconv .f32 b .f64 = B) (nA : NaN .f64 A = false) (nB : NaN .f64 B = false) (ov : over .f64 (pW A B) .f32 = false) :
    Calls Try.prog 43 #[.complex .f32 a b] w (RetF .f32 (fconv .f64 (pW A B) .f32) w) := by
  have P1 := hid (fun w => powW a b A B w hfa hfb hA hB nA nB)
  have OV := hid ov
  clear hfa hfb hA hB nA nB ov
  go_enter Try.func43, Try.ntmps43
  go_wp2_with fail
  refine (P1.out _).mono ?_
  rintro e w' ⟨p, n, rfl, rfl, hp, fp⟩
  go_wp2_with (refine wpList_fcsim rfl _ _ _ rfl .f64 .f32 p rfl fp some25 Try.underlying22 (by decide) hp ?_; intro r n hr hb; have hr1 := hr OV.out; clear hr)
  go_ret
  exact ⟨_, _, rfl, rfl, hr1, hb⟩
theorem nearW (a b c d A B C D : Nat) (w : World) (hfa : Fits .f32 a) (hfb : Fits .f32 b) (hfc : Fits .f32 c) (hfd : Fits .f32 d) (hA : fconv .f32 a .f64 = A) (hB : fconv .f32 b .f64 = B) (hC : fconv .f32 c .f64 = C) (hD : fconv .f32 d .f64 = D)
    (nA : NaN .f64 A = false) (nB : NaN .f64 B = false) (nC : NaN .f64 C = false) (nD : NaN .f64 D = false)
    (h1 : (FloatKind.f64.format.order (gapF A C) 4547007122018943789 == some .lt || FloatKind.f64.format.order (gapF A C) 4547007122018943789 == some .eq) = true)
    (h2 : (FloatKind.f64.format.order (gapF B D) 4547007122018943789 == some .lt || FloatKind.f64.format.order (gapF B D) 4547007122018943789 == some .eq) = true) :
    Calls Try.prog 44 #[.complex .f32 a b, .complex .f32 c d, .float .f64 4547007122018943789] w fun e w' => e = .returned (.bool true) ∧ ∃ n, w' = w.drewN n := by
  have HA := hid hA
  have HB := hid hB
  have HC := hid hC
  have HD := hid hD
  have NA := hid nA
  have NB := hid nB
  have NC := hid nC
  have ND := hid nD
  clear hA hB hC hD nA nB nC nD
  go_enter Try.func44, Try.ntmps44
  go_wp2_with (first
    | (refine wpList_up rfl _ _ _ rfl a rfl hfa u22 Try.underlying25 (Sim.refl _ _) ?_; intro r n hr hb; rw [HA.out] at hr; obtain rfl := sim_eq hr NA.out; clear hr hb)
    | (refine wpList_up rfl _ _ _ rfl c rfl hfc u22 Try.underlying25 (Sim.refl _ _) ?_; intro r n hr hb; rw [HC.out] at hr; obtain rfl := sim_eq hr NC.out; clear hr hb))
  refine (gapW _ _ _ _ _ (Sim.refl _ _) (Sim.refl _ _)).mono ?_
  rintro e w' ⟨g, n, rfl, rfl, hg, hgb⟩
  have ht := order_congr hg (Sim.refl .f64 4547007122018943789)
  go_wp2_with (first
    | (refine wpList_up rfl _ _ _ rfl b rfl hfb u22 Try.underlying25 (Sim.refl _ _) ?_; intro r n hr hb; rw [HB.out] at hr; obtain rfl := sim_eq hr NB.out; clear hr hb)
    | (refine wpList_up rfl _ _ _ rfl d rfl hfd u22 Try.underlying25 (Sim.refl _ _) ?_; intro r n hr hb; rw [HD.out] at hr; obtain rfl := sim_eq hr ND.out; clear hr hb))
  refine (gapW _ _ _ _ _ (Sim.refl _ _) (Sim.refl _ _)).mono ?_
  rintro e w' ⟨g2, n, rfl, rfl, hg2, hgb2⟩
  have ht2 := order_congr hg2 (Sim.refl .f64 4547007122018943789)
  go_wp2_with fail
  go_ret
  exact ⟨rfl, _, rfl⟩
theorem angOfW (a b F : Nat) (h : ∀ w, Calls Try.prog 41 #[.float .f32 b, .float .f32 a] w (RetF .f32 F w)) (w : World) : Calls Try.prog 42 #[.complex .f32 a b] w (RetF .f32 F w) := by
  have H := hid h
  clear h
  go_enter Try.func42, Try.ntmps42
  go_wp2_with fail
  refine (H.out _).mono ?_
  rintro e w' ⟨r, n, rfl, rfl, hr, hb⟩
  go_wp2_with fail
  go_ret
  exact ⟨_, _, rfl, rfl, hr, hb⟩
theorem bits75 (x : Nat) (w : World) (hx : x < 4294967296) (hn : NaN .f32 x = false) : Calls Try.prog 75 #[.float .f32 x] w fun e w' => e = .returned (.int .i64 (x : Int)) ∧ w = w' := by
  have h1 := f32bits x
  have hs := self_ok hn
  have hw : (x : Int) < 4294967296 := by omega
  clear hn
  go_enter Try.func75, Try.ntmps75
  go_wp2
  go_ret
  exact ⟨rfl, rfl⟩
theorem notSame0 (x y : Nat) (w : World) (hx : x < 4294967296) (hy : y < 4294967296) (nx : NaN .f32 x = false) (ny : NaN .f32 y = false) (hne : x ≠ y) : Calls Try.prog 74 #[.float .f32 x, .float .f32 y] w fun e w' => e = .returned (.bool false) ∧ w = w' := by
  have NX := hid (fun w => bits75 x w hx nx)
  have NY := hid (fun w => bits75 y w hy ny)
  have hd : ((x : Int) == (y : Int)) = false := by simp; omega
  clear nx ny hne
  go_enter Try.func74, Try.ntmps74
  go_wp2_with fail
  refine (NX.out _).mono ?_
  rintro e w' ⟨rfl, rfl⟩
  go_wp2_with fail
  refine (NY.out _).mono ?_
  rintro e w' ⟨rfl, rfl⟩
  go_wp2_with fail
  go_ret
  exact ⟨rfl, rfl⟩
theorem notSame (x y : Nat) (w : World) (hx : x < 4294967296) (hy : y < 4294967296) (nx : NaN .f32 x = false) (ny : NaN .f32 y = false) (hne : x ≠ y) : Calls Try.prog 46 #[.float .f32 x, .float .f32 y] w fun e w' => e = .returned (.bool false) ∧ w = w' := by
  have N := hid (fun w => notSame0 x y w hx hy nx ny hne)
  clear nx ny hne
  go_enter Try.func46, Try.ntmps46
  go_wp2_with fail
  refine (N.out _).mono ?_
  rintro e w' ⟨rfl, rfl⟩
  go_wp2_with fail
  go_ret
  exact ⟨rfl, rfl⟩
end TryWalk
end Go.Proofs.Ytlabbakmlanfgaa
