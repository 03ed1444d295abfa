/- Walks of the laws on subnormal numbers and on sameness of numbers. No condition. -/
import Derived.Test.YtjngjadkklphpaaWa
namespace Go.Proofs.Ytjngjadkklphpaa
open Go.RowKit Flo Iee
set_option linter.unusedVariables false
namespace TryWalk

/-! ### magnitude and sign of a great float -/
theorem andNot_top (x : Nat) (hx : x < 2 ^ 64) : (bits .andNot .u64 (x : Int) 9223372036854775808).toNat = x % 9223372036854775808 := by
  have h := u64_andNot_nat x 9223372036854775808 (by omega) (by decide)
  rw [show ((9223372036854775808 : Nat) : Int) = 9223372036854775808 from rfl] at h
  rw [h, Int.toNat_natCast]
  exact Nat.and_two_pow_sub_one_eq_mod x 63
theorem absW (x : Nat) (w : World) (hx : x < 2 ^ 64) : Calls Try.prog 30 #[.float .f64 x] w fun e w' => e = .returned (.float .f64 (x % 9223372036854775808)) ∧ w = w' := by
  have h1 := f64bits x
  have h2 := f64from
  have HA := hid (andNot_top x hx)
  go_enter Try.func30, Try.ntmps30
  go_wp2
  go_ret
  exact ⟨by rw [← HA.out]; rfl, rfl⟩
theorem sgn64 (x : Nat) (hx : x < 2 ^ 64) : decide (wrap64 (x : Int) < 0) = sgn Ieee.double x := by
  unfold sgn
  rw [sw64]
  unfold wrap64
  rw [Bool.eq_iff_iff, decide_eq_true_eq, beq_iff_eq]
  omega
theorem signW (x : Nat) (w : World) (hx : x < 2 ^ 64) : Calls Try.prog 32 #[.float .f64 x] w fun e w' => e = .returned (.bool (sgn Ieee.double x)) ∧ w = w' := by
  have h1 := f64bits x
  have HA := hid (sgn64 x hx)
  go_enter Try.func32, Try.ntmps32
  go_wp2
  go_ret
  exact ⟨by rw [← HA.out]; rfl, rfl⟩

/-! ### subnormal -/
theorem i64_and_nat (a b : Nat) (ha : a < 9223372036854775808) (hb : b < 9223372036854775808) : bits .and .i64 (a : Int) (b : Int) = ((a &&& b : Nat) : Int) := by
  have h1 : (BitVec.ofInt IntKind.i64.bits (a : Int)).toNat = a := ofInt_u64 a (by omega)
  have h2 : (BitVec.ofInt IntKind.i64.bits (b : Int)).toNat = b := ofInt_u64 b (by omega)
  have h3 : a &&& b ≤ a := Nat.and_le_left
  unfold bits
  simp only [BitVec.toNat_and, h1, h2]
  simp [IntKind.wrap, IntKind.bits, IntKind.signed]
  omega
theorem mask32 (x : Nat) (hx : x < 2 ^ 32) : x &&& 2139095040 = (x / 2 ^ 23 % 2 ^ 8) * 2 ^ 23 := by
  have h1 : (x &&& 2139095040) / 2 ^ 23 = x / 2 ^ 23 % 2 ^ 8 := by
    rw [Nat.and_div_two_pow]; exact Nat.and_two_pow_sub_one_eq_mod _ 8
  have h2 : (x &&& 2139095040) % 2 ^ 23 = 0 := by
    rw [Nat.and_mod_two_pow]; exact Nat.and_zero _
  have := Nat.div_add_mod (x &&& 2139095040) (2 ^ 23)
  rw [h1, h2] at this
  omega
theorem neq_zero (x : Nat) : (FloatKind.f32.format.order x 0 != some .eq) = !decide (rung Ieee.single x = 0) := by
  rw [bne]
  congr 1
  rcases three .f32 x with h | h | h
  · exact order_zero h
  · rw [order_zero_inf h]
    have h' : rung Ieee.single x = Ieee.single.infRung := h
    rw [h', inf32]; rfl
  · rw [order_nan_left h]
    rw [nan_iff] at h
    have h' : Ieee.single.infRung < rung Ieee.single x := of_decide_eq_true h
    rw [inf32] at h'
    have : ¬ rung Ieee.single x = 0 := by omega
    simp [this]
theorem spec_sub (x : Nat) (hx : x < 2 ^ 32) : (bits .and .i64 (bitsOf x : Int) 2139095040 == 0) = decide (rung Ieee.single x < 8388608) := by
  have hb := bitsOf_lt hx
  have h := i64_and_nat (bitsOf x) 2139095040 (by omega) (by decide)
  rw [show ((2139095040 : Nat) : Int) = 2139095040 from rfl] at h
  rw [h, mask32 _ hb]
  unfold bitsOf rung
  rw [sw32]
  cases hn : NaN .f32 x
  · rw [Bool.eq_iff_iff, beq_iff_eq, decide_eq_true_eq]
    simp only [Bool.false_eq_true, if_false]
    omega
  · rw [nan_iff] at hn
    have h' : Ieee.single.infRung < rung Ieee.single x := of_decide_eq_true hn
    unfold rung at h'
    rw [inf32, sw32] at h'
    have : ¬ x % 2 ^ 31 < 8388608 := by omega
    simp [this]
theorem impl_sub (x : Nat) : (FloatKind.f64.format.order (fconv .f32 x .f64 % 9223372036854775808) 4039728865751334912 == some .lt) = decide (rung Ieee.single x < 8388608) := by
  rcases three .f32 x with h | h | h
  · obtain ⟨h1, h2, h3, h4⟩ := fconv_up h
    have hf : FinW FloatKind.f64.format (fconv .f32 x .f64 % 9223372036854775808) := by
      unfold FinW; rw [(abs_rung _).1]; exact h1
    have hc : FinW FloatKind.f64.format 4039728865751334912 := by rw [← fin_iff]; decide +kernel
    have hsc : sv FloatKind.f64.format 4039728865751334912 = ((2 ^ 23 * 2 ^ sh : Nat) : Int) := by
      have e1 : sgn FloatKind.f64.format 4039728865751334912 = false := by decide +kernel
      have e2 : rung FloatKind.f64.format 4039728865751334912 = (896 + 1) * FloatKind.f64.format.binade := by decide +kernel
      unfold sv
      rw [e1, e2, mv_pow, ← Nat.pow_add, show FloatKind.f64.format.fractionBits + 896 = 23 + sh from rfl]
      simp only [Bool.false_eq_true, if_false]
    rw [order_fin hf hc, abs_sv, hsc]
    have h4' : mv FloatKind.f64.format (rung FloatKind.f64.format (fconv .f32 x .f64)) = mv Ieee.single (rung Ieee.single x) * 2 ^ sh := h4
    rw [h4', cmp_int]
    have hp := Nat.two_pow_pos sh
    have k1 : mv Ieee.single (rung Ieee.single x) * 2 ^ sh < 2 ^ 23 * 2 ^ sh ↔ rung Ieee.single x < 8388608 := by
      rw [Nat.mul_lt_mul_right hp]
      have e : (2 ^ 23 : Nat) = mv Ieee.single 8388608 := by decide +kernel
      rw [e, mv_lt_iff]
    have k2 : ((mv Ieee.single (rung Ieee.single x) * 2 ^ sh : Nat) : Int) < ((2 ^ 23 * 2 ^ sh : Nat) : Int) ↔ rung Ieee.single x < 8388608 := by rw [Int.ofNat_lt]; exact k1
    by_cases hr : rung Ieee.single x < 8388608
    · rw [if_pos (k2.2 hr)]; simp [hr]
    · rw [if_neg (fun h => hr (k2.1 h))]
      split <;> simp [hr]
  · have hc := conv_inf (s := .f32) (k := .f64) (by decide) h
    have e : fconv .f32 x .f64 = FloatKind.f64.format.word (sgn FloatKind.f32.format x) FloatKind.f64.format.infRung := by simp [fconv, hc]
    have hi : FloatKind.f64.format.infRung < FloatKind.f64.format.signWeight := Ieee.Format.infRung_lt _
    have hr : rung FloatKind.f64.format (fconv .f32 x .f64 % 9223372036854775808) = FloatKind.f64.format.infRung := by
      rw [(abs_rung _).1, e, rung_word _ _ hi]
    have hcst : FinW FloatKind.f64.format 4039728865751334912 := by rw [← fin_iff]; decide +kernel
    rw [order_inf hr hcst, (abs_rung _).2]
    have h' : rung Ieee.single x = Ieee.single.infRung := h
    rw [h', inf32]; rfl
  · have hn := nan_fconv (s := .f32) (k := .f64) (by decide) h
    rw [order_nan_left (by rw [abs_nan]; exact hn)]
    rw [nan_iff] at h
    have h' : Ieee.single.infRung < rung Ieee.single x := of_decide_eq_true h
    rw [inf32] at h'
    have : ¬ rung Ieee.single x < 8388608 := by omega
    simp [this]

def subB (x : Nat) : Bool := !decide (rung Ieee.single x = 0) && decide (rung Ieee.single x < 8388608)
theorem spSub (x : Nat) (w : World) (hx : x < 2 ^ 32) : Calls Try.prog 20 #[.float .f32 x] w fun e w' => e = .returned (.bool (subB x)) ∧ w = w' := by
  have hn := neq_zero x
  cases hb : (!decide (rung Ieee.single x = 0))
  · rw [hb] at hn
    have HB := hid hb
    clear hb
    go_enter Try.func20, Try.ntmps20
    go_wp2
    go_ret
    exact ⟨by rw [subB, HB.out]; rfl, rfl⟩
  · rw [hb] at hn
    have HB := hid hb
    clear hb
    have HS := hid (spec_sub x hx)
    go_enter Try.func20, Try.ntmps20
    go_wp2_with (go_at_call 28; refine (specBits _ _ hx).mono ?_; rintro e w' ⟨rfl, rfl⟩)
    go_ret
    exact ⟨by rw [subB, HB.out, ← HS.out]; rfl, rfl⟩
theorem imSub (x : Nat) (w : World) (hx : x < 2 ^ 32) : Calls Try.prog 21 #[.float .f32 x] w fun e w' => e = .returned (.bool (subB x)) ∧ ∃ n, w' = w.drewN n := by
  have hn := neq_zero x
  cases hb : (!decide (rung Ieee.single x = 0))
  · rw [hb] at hn
    have HB := hid hb
    clear hb
    go_enter Try.func21, Try.ntmps21
    go_wp2
    go_ret
    exact ⟨by rw [subB, HB.out]; rfl, 0, rfl⟩
  · rw [hb] at hn
    have HB := hid hb
    clear hb
    have HS := hid (impl_sub x)
    have HF := fits_of_wf (k := .f32) (x := x) (by simpa [Lit.wf] using hx)
    go_enter Try.func21, Try.ntmps21
    go_wp2_with (first | (refine wpList_up rfl _ _ _ rfl _ rfl HF (by rw [Try.underlying23]; rfl) Try.underlying25 (Sim.refl _ _) ?_; intro r n hr hb) | (go_at_call 30; refine (absW _ _ ?_).mono ?_; (exact fits64 (by assumption)); rintro e w' ⟨rfl, rfl⟩))
    go_ret
    exact ⟨by rw [subB, HB.out, ← HS.out, ← order_congr (abs_sim hr) (Sim.refl _ _)]; rfl, n, rfl⟩
theorem fnExactIsSubnormal (x : Nat) (w : World) (hx : (Lit.float .f32 x).wf = true) : Calls Try.prog 8 #[.float .f32 x] w fun e w' => e = .returned (.bool true) ∧ Below w.heap.size w w' := by
  have hx' := f32lt hx
  clear hx
  go_enter Try.func8, Try.ntmps8
  go_wp2_with (first | (go_at_call 20; refine (spSub _ _ hx').mono ?_; rintro e w' ⟨rfl, rfl⟩) | (go_at_call 21; refine (imSub _ _ hx').mono ?_; rintro e w' ⟨rfl, n, rfl⟩))
  go_ret
  exact ⟨rfl, below_drewN (Below.refl _ _) _⟩

/-! ### sameness -/
def sameB (a b : Nat) : Bool := (bitsOf a : Int) == (bitsOf b : Int)
theorem spSame0 (a b : Nat) (w : World) (ha : a < 2 ^ 32) (hb : b < 2 ^ 32) : Calls Try.prog 31 #[.float .f32 a, .float .f32 b] w fun e w' => e = .returned (.bool (sameB a b)) ∧ w = w' := by
  go_enter Try.func31, Try.ntmps31
  go_wp2_with (go_at_call 28; refine (specBits _ _ (by assumption)).mono ?_; rintro e w' ⟨rfl, rfl⟩)
  go_ret
  exact ⟨rfl, rfl⟩
theorem spSame (a b : Nat) (w : World) (ha : a < 2 ^ 32) (hb : b < 2 ^ 32) : Calls Try.prog 22 #[.float .f32 a, .float .f32 b] w fun e w' => e = .returned (.bool (sameB a b)) ∧ w = w' := by
  go_enter Try.func22, Try.ntmps22
  go_wp2_with (go_at_call 31; refine (spSame0 _ _ _ ha hb).mono ?_; rintro e w' ⟨rfl, rfl⟩)
  go_ret
  exact ⟨rfl, rfl⟩
theorem sameB_nan_left {a b : Nat} (hb : b < 2 ^ 32) (h : NaN .f32 a = true) : sameB a b = NaN .f32 b := by
  unfold sameB bitsOf
  rw [h]
  cases hn : NaN .f32 b
  · have : NaN .f32 2143289344 = true := by decide +kernel
    have : ¬ b = 2143289344 := by rintro rfl; rw [this] at hn; cases hn
    simp; omega
  · simp
theorem sameB_nan_right {a b : Nat} (ha : NaN .f32 a = false) (hb : NaN .f32 b = true) : sameB a b = false := by
  unfold sameB bitsOf
  rw [ha, hb]
  have : NaN .f32 2143289344 = true := by decide +kernel
  have : ¬ a = 2143289344 := by rintro rfl; rw [this] at ha; cases ha
  simp; omega
theorem sameB_num {a b : Nat} (fa : Fits .f32 a) (fb : Fits .f32 b) (ha : NaN .f32 a = false) (hb : NaN .f32 b = false) : sameB a b = ((FloatKind.f32.format.order a b == some .eq) && (sgn Ieee.single a == sgn Ieee.single b)) := by
  have := same_word fa fb ha hb
  unfold sameB bitsOf
  rw [ha, hb]
  simp only [Bool.false_eq_true, if_false]
  refine Eq.trans ?_ this
  rw [Bool.eq_iff_iff]
  simp
  omega
theorem imSame (a b : Nat) (w : World) (ha : a < 2 ^ 32) (hb : b < 2 ^ 32) : Calls Try.prog 23 #[.float .f32 a, .float .f32 b] w fun e w' => e = .returned (.bool (sameB a b)) ∧ ∃ n, w' = w.drewN n := by
  have fa : Fits .f32 a := fits_of_wf (by simpa [Lit.wf] using ha)
  have fb : Fits .f32 b := fits_of_wf (by simpa [Lit.wf] using hb)
  have na := order_self_neq .f32 a
  have nb := order_self_neq .f32 b
  cases hna : NaN .f32 a
  · rw [hna] at na
    cases hnb : NaN .f32 b
    · rw [hnb] at nb
      have HS := hid (sameB_num fa fb hna hnb)
      obtain ⟨ca, sa⟩ := fconv_up_sgn hna
      obtain ⟨cb, sb⟩ := fconv_up_sgn hnb
      have CA := hid ca
      have CB := hid cb
      have SA := hid sa
      have SB := hid sb
      clear ca cb sa sb hna hnb
      cases hq : (FloatKind.f32.format.order a b == some .eq)
      · go_enter Try.func23, Try.ntmps23
        go_wp2
        go_ret
        exact ⟨by rw [HS.out, hq]; rfl, 0, rfl⟩
      · go_enter Try.func23, Try.ntmps23
        go_wp2_with (first | (refine wpList_up rfl _ _ _ rfl _ rfl (by assumption) (by rw [Try.underlying23]; rfl) Try.underlying25 (Sim.refl _ _) ?_; intro r n hr hb) | (go_at_call 32; refine (signW _ _ ?_).mono ?_; (exact fits64 (by assumption)); rintro e w' ⟨rfl, rfl⟩))
        go_ret
        rename_i r1 n1 h1 b1
        have e1 := sim_eq h1 CA.out
        have e2 := sim_eq hr CB.out
        refine ⟨?_, _, rfl⟩
        rw [HS.out, hq, ← SA.out, ← SB.out, ← e1, ← e2]
        rfl
    · rw [hnb] at nb
      have HS := hid (sameB_nan_right hna hnb)
      clear hna hnb
      go_enter Try.func23, Try.ntmps23
      go_wp2
      go_ret
      exact ⟨by rw [HS.out]; rfl, 0, rfl⟩
  · rw [hna] at na
    have HS := hid (sameB_nan_left hb hna)
    clear hna
    cases hnb : NaN .f32 b
    all_goals
      rw [hnb] at nb HS
      clear hnb
      go_enter Try.func23, Try.ntmps23
      go_wp2
      go_ret
      exact ⟨by rw [HS.out]; rfl, 0, rfl⟩
theorem fnExactSameNumber (a b : Nat) (w : World) (ha : (Lit.float .f32 a).wf = true) (hb : (Lit.float .f32 b).wf = true) : Calls Try.prog 9 #[.float .f32 a, .float .f32 b] w fun e w' => e = .returned (.bool true) ∧ Below w.heap.size w w' := by
  have ha' := f32lt ha
  have hb' := f32lt hb
  clear ha hb
  go_enter Try.func9, Try.ntmps9
  go_wp2_with (first | (go_at_call 22; refine (spSame _ _ _ ha' hb').mono ?_; rintro e w' ⟨rfl, rfl⟩) | (go_at_call 23; refine (imSame _ _ _ ha' hb').mono ?_; rintro e w' ⟨rfl, n, rfl⟩))
  go_ret
  exact ⟨rfl, below_drewN (Below.refl _ _) _⟩
end TryWalk
end Go.Proofs.Ytjngjadkklphpaa
