/- The law on FlushNumber. No condition. -/
import Derived.Test.YtlabbakmlanfgaaWbase
import Derived.Test.YtlabbakmlanfgaaFsub
namespace Go.Proofs.Ytlabbakmlanfgaa
open Go.RowKit Flo Iee
set_option linter.unusedVariables false
namespace TryWalk
theorem specBits (x : Nat) (w : World) (hx : x < 2 ^ 32) : Calls Try.prog 75 #[.float .f32 x] w fun e w' => e = .returned (.int .i64 (bitsOf x)) ∧ w = w' := by
  have h1 := f32bits x
  have hn := order_self_neq .f32 x
  have hw : (x : Int) < 4294967296 := by omega
  cases h : NaN .f32 x <;> rw [h] at hn
  all_goals
    go_enter Try.func75, Try.ntmps75
    go_wp2
    go_ret
    exact ⟨by simp [bitsOf, h], rfl⟩
theorem spFlush (x : Nat) (w : World) (hx : x < 2 ^ 32) : Calls Try.prog 47 #[.float .f32 x] w fun e w' => e = .returned (.float .f32 (flushS x)) ∧ w = w' := by
  have HS := spec_sub x hx
  have h2 := f32from
  cases hr : decide (rung Ieee.single x < 8388608)
  · rw [hr] at HS
    have HE := hid (show flushS x = x by unfold flushS; rw [if_neg (of_decide_eq_false hr)])
    clear hr
    go_enter Try.func47, Try.ntmps47
    go_wp2_with (go_at_call 75; refine (specBits _ _ hx).mono ?_; rintro e w' ⟨rfl, rfl⟩)
    go_ret
    exact ⟨by rw [HE.out]; rfl, rfl⟩
  · rw [hr] at HS
    have HE := hid (show flushS x = Ieee.single.word (sgn Ieee.single x) 0 by unfold flushS; rw [if_pos (of_decide_eq_true hr)])
    have hnn : bitsOf x = x := by
      unfold bitsOf
      rw [nan_iff]
      have h1 := of_decide_eq_true hr
      have : ¬ FloatKind.f32.format.infRung < rung FloatKind.f32.format x := by
        have e : FloatKind.f32.format.infRung = 255 * 2 ^ 23 := inf32
        rw [e]
        have e2 : rung FloatKind.f32.format x = rung Ieee.single x := rfl
        omega
      simp [this]
    have ht := and_top32 x hx
    have hwl : Ieee.single.word (sgn Ieee.single x) 0 < 2 ^ 32 := by
      unfold Ieee.Format.word; rw [sw32]; split <;> omega
    rw [hnn] at HS
    have HN := hid hnn
    generalize Ieee.single.word (sgn Ieee.single x) 0 = W at *
    have hw1 : (W : Int) < 4294967296 := by omega
    clear hr hnn
    go_enter Try.func47, Try.ntmps47
    go_wp2_with (first | (go_at_call 75; refine (specBits _ _ hx).mono ?_; rintro e w' ⟨rfl, rfl⟩; rw [HN.out]) | go_in)
    go_ret
    exact ⟨by rw [HE.out]; rfl, rfl⟩
theorem spFlushT (x : Nat) (w : World) (hx : x < 2 ^ 32) : Calls Try.prog 15 #[.float .f32 x] w fun e w' => e = .returned (.float .f32 (flushS x)) ∧ w = w' := by
  go_enter Try.func15, Try.ntmps15
  go_wp2_with (go_at_call 47; refine (spFlush _ _ hx).mono ?_; rintro e w' ⟨rfl, rfl⟩)
  go_ret
  exact ⟨rfl, rfl⟩
theorem imSub (x : Nat) (w : World) (hx : x < 2 ^ 32) : Calls Try.prog 48 #[.float .f32 x] w fun e w' => e = .returned (.bool (subB x)) ∧ ∃ n, w' = w.drewN n := by
  have hn := neq_zero x
  cases hb : (!decide (rung Ieee.single x = 0))
  · rw [hb] at hn
    have HB := hid hb
    clear hb
    go_enter Try.func48, Try.ntmps48
    go_wp2
    go_ret
    exact ⟨by rw [subB, HB.out]; rfl, 0, rfl⟩
  · rw [hb] at hn
    have HB := hid hb
    clear hb
    have HS := hid (impl_sub x)
    have HF := fits_of_wf (k := .f32) (x := x) (by simpa [Lit.wf] using hx)
    go_enter Try.func48, Try.ntmps48
    go_wp2_with (first | (refine wpList_up rfl _ _ _ rfl _ rfl HF u22 Try.underlying25 (Sim.refl _ _) ?_; intro r n hr hb) | (go_at_call 59; refine (absW _ _ ?_).mono ?_; (exact fits64 (by with_reducible assumption)); rintro e w' ⟨rfl, rfl⟩))
    go_ret
    exact ⟨by rw [subB, HB.out, ← HS.out, ← order_congr (abs_sim hr) (Sim.refl _ _)]; rfl, n, rfl⟩
theorem copyW (x : Nat) (w : World) (hx : x < 2 ^ 64) : Calls Try.prog 49 #[.float .f64 0, .float .f64 x] w fun e w' => e = .returned (.float .f64 (Ieee.double.word (sgn Ieee.double x) 0)) ∧ w = w' := by
  have h1 := f64bits
  have h2 := f64from
  have h3 : bits .andNot .u64 0 9223372036854775808 = 0 := by decide +kernel
  have h4 := u64_and_nat x 9223372036854775808 (by omega) (by decide)
  rw [show ((9223372036854775808 : Nat) : Int) = 9223372036854775808 from rfl, and_top64 x hx] at h4
  have hwl : Ieee.double.word (sgn Ieee.double x) 0 < 2 ^ 64 := by
    unfold Ieee.Format.word; rw [sw64]; split <;> omega
  have h5 := u64_or_nat 0 (Ieee.double.word (sgn Ieee.double x) 0) (by omega) (by omega)
  rw [Nat.zero_or, show ((0 : Nat) : Int) = 0 from rfl] at h5
  generalize Ieee.double.word (sgn Ieee.double x) 0 = W at *
  go_enter Try.func49, Try.ntmps49
  go_wp2
  go_ret
  exact ⟨by simp, rfl⟩

theorem zeroConv : ∀ s : Bool, Sim .f32 (fconv .f64 (Ieee.double.word s 0) .f32) (Ieee.single.word s 0) ∧ over .f64 (Ieee.double.word s 0) .f32 = false := by
  intro s
  cases s
  · exact ⟨.inl (by decide +kernel), by decide +kernel⟩
  · exact ⟨.inl (by decide +kernel), by decide +kernel⟩
theorem word0_lt (s : Bool) : Ieee.double.word s 0 < 2 ^ 64 := by
  unfold Ieee.Format.word; rw [sw64]; split <;> omega
theorem imFlush (x : Nat) (w : World) (hx : x < 2 ^ 32) : Calls Try.prog 16 #[.float .f32 x] w (RetF .f32 (flushS x) w) := by
  have HF := fits_of_wf (k := .f32) (x := x) (by simpa [Lit.wf] using hx)
  cases hs : subB x
  · have HE := hid (show flushS x = x by
      unfold flushS
      split
      · rename_i h
        have h0 : rung Ieee.single x = 0 := by
          unfold subB at hs
          simp [h] at hs
          exact hs
        have := word_eta Ieee.single x HF
        rw [h0] at this
        exact this
      · rfl)
    go_enter Try.func16, Try.ntmps16
    go_wp2_with (go_at_call 48; refine (imSub _ _ hx).mono ?_; rintro e w' ⟨rfl, n, rfl⟩)
    go_ret
    exact ⟨x, _, rfl, rfl, by rw [HE.out]; exact Sim.refl _ _, HF⟩
  · have hr : rung Ieee.single x < 8388608 := by
      unfold subB at hs
      simp at hs
      exact hs.2
    have HE := hid (show flushS x = Ieee.single.word (sgn Ieee.single x) 0 by unfold flushS; rw [if_pos hr])
    have hfx : FinW Ieee.single x := by unfold FinW; rw [inf32]; omega
    obtain ⟨g1, g2, g3, g4⟩ := fconv_up hfx
    have HN := hid (nan_of_fin (k := .f64) g1)
    have HG := hid g3
    have HO := hid (zeroConv (sgn Ieee.single x))
    have HW := hid (word0_lt (sgn Ieee.single x))
    clear hr g2 g3 g4
    go_enter Try.func16, Try.ntmps16
    go_wp2_with (first | (go_at_call 48; refine (imSub _ _ hx).mono ?_; rintro e w' ⟨rfl, n, rfl⟩) | (refine wpList_up rfl _ _ _ rfl _ rfl HF u22 Try.underlying25 (Sim.refl _ _) ?_; intro r n hr hb; obtain rfl := sim_eq hr HN.out; clear hr) | (go_at_call 49; refine (copyW _ _ ?_).mono ?_; (exact fits64 (by with_reducible assumption)); rintro e w' ⟨rfl, rfl⟩; rw [HG.out]) | (refine wpList_fcsim rfl _ _ _ rfl .f64 .f32 _ rfl (fits_of_wf (by simpa [Lit.wf] using HW.out)) u25 Try.underlying22 (by decide) (Sim.refl _ _) ?_; intro r n hr hb))
    go_ret
    exact ⟨_, _, rfl, rfl, by rw [HE.out]; exact Sim.trans (hr HO.out.2) HO.out.1, hb⟩
theorem fnExactFlushNumber (x : Nat) (w : World) (hx : (Lit.float .f32 x).wf = true) : Calls Try.prog 3 #[.float .f32 x] w fun e w' => e = .returned (.bool true) ∧ Below w.heap.size w w' := by
  have hf := f32lt hx
  have hs0 : ∀ x, x < 2 ^ 32 → Fits .f32 x := fun x h => fits_of_wf (by simpa [Lit.wf] using h)
  have HFS := hid (show Fits .f32 (flushS x) by
    unfold flushS; split
    · apply hs0; unfold Ieee.Format.word; rw [sw32]; split <;> omega
    · exact hs0 _ hf)
  clear hx hs0
  go_enter Try.func3, Try.ntmps3
  go_wp2_with (first | (go_at_call 15; refine (spFlushT _ _ hf).mono ?_; rintro e w' ⟨rfl, rfl⟩) | (go_at_call 16; refine (imFlush _ _ hf).mono ?_; rintro e w' ⟨r, n, rfl, rfl, hr, hb⟩) | (refine wpList_up rfl _ _ _ rfl _ rfl (by first | with_reducible assumption | exact HFS.out) u22 Try.underlying25 (by first | with_reducible assumption | exact Sim.refl _ _) ?_; intro r n hr hb) | (go_at_call 17; refine (sameFloat _ _ _ (Sim.trans (by with_reducible assumption) (Sim.symm (by with_reducible assumption)))).mono ?_; rintro e w' ⟨rfl, n, rfl⟩))
  go_ret
  exact ⟨rfl, below_drewN (Below.refl _ _) _⟩
end TryWalk
end Go.Proofs.Ytlabbakmlanfgaa
