/- Floats: finite words, conversion to the great kind, signs and magnitudes. No condition. -/
import Derived.Test.YtlabbakmlanfgaaFlo
import Derived.Test.YtlabbakmlanfgaaIee
namespace Go.Proofs.Ytlabbakmlanfgaa.Flo
open Go Go.RowKit Iee Ieee

def fin (k : FloatKind) (x : Nat) : Bool := decide (rung k.format x < k.format.infRung)
theorem fin_iff {k : FloatKind} {x : Nat} : fin k x = true ↔ FinW k.format x := by simp [fin, FinW]
theorem nan_iff (k : FloatKind) (x : Nat) : NaN k x = decide (k.format.infRung < rung k.format x) := by
  have hb : k.format.binade ≤ k.format.infRung := by cases k <;> decide +kernel
  unfold NaN FloatKind.decode Format.read rung
  simp only
  generalize x % k.format.signWeight = r
  split
  · simp [Datum.isNaN]; omega
  · split
    · simp [Datum.isNaN]; omega
    · split
      · simp [Datum.isNaN]; omega
      · simp [Datum.isNaN]; omega
theorem read_inf {k : FloatKind} {x : Nat} (h : rung k.format x = k.format.infRung) : k.format.read x = .infinity (sgn k.format x) := by
  have hb : k.format.binade ≤ k.format.infRung := by cases k <;> decide +kernel
  unfold rung at h
  unfold Format.read sgn
  simp only
  rw [if_neg (by omega), if_neg (by omega), if_pos h]
theorem three (k : FloatKind) (x : Nat) : FinW k.format x ∨ rung k.format x = k.format.infRung ∨ NaN k x = true := by
  rw [nan_iff]
  unfold FinW
  simp only [decide_eq_true_eq]
  omega

def isFin (k : FloatKind) (x : Nat) : Bool := k.format.order (fop .sub k x x) 0 == some .eq
theorem zero_word (f : Format) : f.word false 0 = 0 := rfl
theorem fin_zero (k : FloatKind) : FinW k.format 0 := by rw [← fin_iff]; cases k <;> decide +kernel
theorem sv_zero (f : Format) : sv f 0 = 0 := by
  have : mv f (0 % f.signWeight) = 0 := by simp [mv_zero]
  unfold sv rung
  rw [this]; simp
theorem isFin_eq (k : FloatKind) (x : Nat) : isFin k x = fin k x := by
  unfold isFin
  rcases three k x with h | h | h
  · have e : fop .sub k x x = 0 := by
      unfold fop floatBits
      simp only
      rw [sub_fin h h]
      have : (sv k.format x - sv k.format x) = 0 := by omega
      rw [this]
      have hz : rg k.format (0 : Int).natAbs = 0 := by have := rg_mv k.format 0; rw [mv_zero] at this; exact this
      rw [hz]
      cases sgn k.format x <;> simp [Format.word]
    rw [e, fin_iff.2 h, order_fin (fin_zero k) (fin_zero k)]
    simp
  · have e : floatBits .sub k x x = none := by
      simp only [floatBits, Format.sub, read_inf h, Datum.opposite, Datum.sum]
      cases sgn k.format x <;> rfl
    have : fop .sub k x x = qn k := by simp [fop, e]
    rw [this, order_nan_left (NaN_qn k)]
    simp [fin, h]
  · have e : fop .sub k x x = qn k := by simp [fop, floatBits_nan_left h]
    rw [e, order_nan_left (NaN_qn k)]
    rw [nan_iff] at h
    simp only [decide_eq_true_eq] at h
    simp [fin]; omega

theorem mv_le_pow {f : Format} {r c : Nat} (h : r ≤ (c + 1) * f.binade) : mv f r ≤ 2 ^ (f.fractionBits + c) := by
  rw [← mv_pow]; exact (mv_le_iff f _ _).2 h

theorem lp32 : Ieee.single.leastPlace = -149 := by decide +kernel
theorem lp64 : Ieee.double.leastPlace = -1074 := by decide +kernel
theorem inf32 : Ieee.single.infRung = 255 * 2 ^ 23 := by decide +kernel
theorem inf64 : Ieee.double.infRung = 2047 * 2 ^ 52 := by decide +kernel
theorem bin32 : Ieee.single.binade = 2 ^ 23 := by decide +kernel
theorem bin64 : Ieee.double.binade = 2 ^ 52 := by decide +kernel
theorem sw32 : Ieee.single.signWeight = 2 ^ 31 := by decide +kernel
theorem sw64 : Ieee.double.signWeight = 2 ^ 63 := by decide +kernel

/-- The places between the two kinds' least places: 925. -/
def sh : Nat := 925
theorem sh_eq : sh = 925 := rfl

/-- A finite number of the small kind is the same number of the great one. -/
theorem conv_up {x : Nat} (h : FinW Ieee.single x) : ∃ r, floatToFloatBits .f32 x .f64 = some r ∧ FinW Ieee.double r ∧ sv Ieee.double r = sv Ieee.single x * (2 ^ sh : Nat) ∧ sgn Ieee.double r = sgn Ieee.single x ∧
    mv Ieee.double (rung Ieee.double r) = mv Ieee.single (rung Ieee.single x) * 2 ^ sh := by
  have hm := mg_lt Ieee.single (rung Ieee.single x)
  have hmv : mv Ieee.single (rung Ieee.single x) ≤ 2 ^ (Ieee.single.fractionBits + 254) := by
    apply mv_le_pow
    unfold FinW at h
    rw [inf32] at h; rw [bin32]; omega
  have hV : mg Ieee.single (rung Ieee.single x) * 2 ^ (sh + ex Ieee.single (rung Ieee.single x)) = mv Ieee.single (rung Ieee.single x) * 2 ^ sh := by
    unfold mv; rw [Nat.mul_assoc, ← Nat.pow_add, Nat.add_comm]
  have hle : rg Ieee.double (mv Ieee.single (rung Ieee.single x) * 2 ^ sh) ≤ (1150 + 1) * Ieee.double.binade := by
    apply rg_le
    calc mv Ieee.single (rung Ieee.single x) * 2 ^ sh ≤ 2 ^ (Ieee.single.fractionBits + 254) * 2 ^ sh := Nat.mul_le_mul_right _ hmv
      _ = 2 ^ (Ieee.double.fractionBits + 1150) := by
          rw [← Nat.pow_add, show Ieee.single.fractionBits + 254 + sh = Ieee.double.fractionBits + 1150 from rfl]
  have hex : mv Ieee.double (rg Ieee.double (mv Ieee.single (rung Ieee.single x) * 2 ^ sh)) = mv Ieee.single (rung Ieee.single x) * 2 ^ sh := by
    refine mv_rg Ieee.double _ (mg Ieee.single (rung Ieee.single x)) _ hV.symm (Nat.lt_of_lt_of_le hm (Nat.pow_le_pow_right (by decide) (by decide)))
  generalize hR : rg Ieee.double (mv Ieee.single (rung Ieee.single x) * 2 ^ sh) = R at hle hex
  have hRi : R < Ieee.double.infRung := by rw [inf64]; rw [bin64] at hle; omega
  have hRs : R < Ieee.double.signWeight := by rw [sw64]; rw [inf64] at hRi; omega
  have henc : FloatKind.f64.encode (.number (sgn Ieee.single x) (mg Ieee.single (rung Ieee.single x)) (Ieee.single.leastPlace + ex Ieee.single (rung Ieee.single x))) = Ieee.double.word (sgn Ieee.single x) R := by
    show Ieee.double.nearest _ _ _ = _
    have hp : Ieee.single.leastPlace + (ex Ieee.single (rung Ieee.single x) : Int) = Ieee.double.leastPlace + ((sh + ex Ieee.single (rung Ieee.single x) : Nat) : Int) := by rw [lp32, lp64, sh_eq]; omega
    rw [hp, near_V, hV, hR, Nat.min_eq_left (by omega)]
  have hFin : FinW Ieee.double (Ieee.double.word (sgn Ieee.single x) R) := by unfold FinW; rw [rung_word _ _ hRs]; exact hRi
  refine ⟨Ieee.double.word (sgn Ieee.single x) R, ?_, hFin, ?_, sgn_word _ _ hRs, ?_⟩
  · unfold floatToFloatBits
    rw [if_neg (by decide)]
    have hd : FloatKind.f32.decode x = .number (sgn Ieee.single x) (mg Ieee.single (rung Ieee.single x)) (Ieee.single.leastPlace + ex Ieee.single (rung Ieee.single x)) := read_fin h
    rw [hd]
    simp only
    rw [henc]
    have hd2 : FloatKind.f64.decode (Ieee.double.word (sgn Ieee.single x) R) = _ := read_fin hFin
    rw [hd2]
    simp [Datum.isInfinity]
  · rw [sv_word _ _ hRs, hex]
    unfold sv
    split <;> simp [Int.neg_mul]
  · rw [rung_word _ _ hRs, hex]

theorem conv_inf {s k : FloatKind} {x : Nat} (hne : s ≠ k) (h : rung s.format x = s.format.infRung) : floatToFloatBits s x k = some (k.format.word (sgn s.format x) k.format.infRung) := by
  unfold floatToFloatBits
  rw [if_neg hne]
  have : s.decode x = .infinity (sgn s.format x) := read_inf h
  rw [this]
  rfl

theorem over_up (x : Nat) : over .f32 x .f64 = false := by
  rcases three .f32 x with h | h | h
  · obtain ⟨r, hr, _⟩ := conv_up h
    simp [over, hr]
  · simp [over, conv_inf (k := .f64) (by decide) h]
  · simp [over, h]

theorem fconv_up {x : Nat} (h : FinW Ieee.single x) : FinW Ieee.double (fconv .f32 x .f64) ∧ sv Ieee.double (fconv .f32 x .f64) = sv Ieee.single x * (2 ^ sh : Nat) ∧ sgn Ieee.double (fconv .f32 x .f64) = sgn Ieee.single x ∧
    mv Ieee.double (rung Ieee.double (fconv .f32 x .f64)) = mv Ieee.single (rung Ieee.single x) * 2 ^ sh := by
  obtain ⟨r, hr, h1, h2, h3, h4⟩ := conv_up h
  have : fconv .f32 x .f64 = r := by simp [fconv, hr]
  rw [this]; exact ⟨h1, h2, h3, h4⟩
/-- The walk's law for float64(x) of a float32. -/
theorem wpList_up {P : Program} {w : World} {ops : Array Oper} {rest : List Oper} {o : Oper} {a : Act} {Q : Exit → Act → World → Prop} (hgd : Region.wanted o (yielded ops a.tmps) = true)
    (src dst : TypeId) (X : Operand) (ho : o.op = .convert src dst X) (x : Nat) (hx : a.eval X = .float .f32 x) (hfx : Fits .f32 x) (hs : (P.underlying src).isSome = true) (hd : P.underlying dst = some (.float .f64))
    {x' : Nat} (hx' : Sim .f32 x x')
    (h : ∀ r n, Sim .f64 r (fconv .f32 x' .f64) → Fits .f64 r → wpList P ops Q rest (a.put o.dst (.float .f64 r)) (w.drewN n)) : wpList P ops Q (o :: rest) a w :=
  wpList_fcsim hgd src dst X ho .f32 .f64 x hx hfx hs hd (by decide) hx' fun r n hr hb => h r n (hr (over_up x')) hb
theorem nan_fconv {s k : FloatKind} {x : Nat} (hne : s ≠ k) (h : NaN s x = true) : NaN k (fconv s x k) = true := by
  have : fconv s x k = qn k := by simp [fconv, fconv_nan hne h]
  rw [this]; exact NaN_qn k

/-! ### the sign bit -/
theorem xor_top (n x : Nat) (h : x < 2 * 2 ^ n) : x ^^^ 2 ^ n = if x < 2 ^ n then x + 2 ^ n else x - 2 ^ n := by
  have hp := Nat.two_pow_pos n
  have h1 : (x ^^^ 2 ^ n) / 2 ^ n = x / 2 ^ n ^^^ 1 := by rw [Nat.xor_div_two_pow, Nat.div_self hp]
  have h2 : (x ^^^ 2 ^ n) % 2 ^ n = x % 2 ^ n := by rw [Nat.xor_mod_two_pow, Nat.mod_self, Nat.xor_zero]
  have hd := Nat.div_add_mod (x ^^^ 2 ^ n) (2 ^ n)
  rw [h1, h2] at hd
  have hd0 := Nat.div_add_mod x (2 ^ n)
  have hlt : x / 2 ^ n < 2 := (Nat.div_lt_iff_lt_mul hp).2 h
  split
  · rename_i hx
    rw [Nat.div_eq_of_lt hx] at hd hd0
    simp at hd hd0
    omega
  · rename_i hx
    have e : x / 2 ^ n = 1 := by
      rw [Nat.div_eq_iff hp]; omega
    rw [e] at hd hd0
    simp at hd hd0
    omega
theorem neg_word (k : FloatKind) (s : Bool) (r : Nat) (h : r < k.format.signWeight) : fneg k (k.format.word s r) = k.format.word (!s) r := by
  show k.format.word s r ^^^ 2 ^ (k.format.exponentBits + k.format.fractionBits) = _
  have e : k.format.signWeight = 2 ^ (k.format.exponentBits + k.format.fractionBits) := rfl
  rw [xor_top]
  · rw [← e]; unfold Format.word
    cases s
    · simp [h]; omega
    · simp; omega
  · rw [← e]; unfold Format.word; split <;> omega
theorem neg_fin {k : FloatKind} {x : Nat} (hx : Fits k x) : rung k.format (fneg k x) = rung k.format x ∧ sgn k.format (fneg k x) = !sgn k.format x := by
  have hr : rung k.format x < k.format.signWeight := Nat.mod_lt _ (Nat.two_pow_pos _)
  have e := word_eta k.format x hx
  rw [← e, neg_word k _ _ hr, rung_word _ _ hr, sgn_word _ _ hr, rung_word _ _ hr, sgn_word _ _ hr]
  exact ⟨rfl, rfl⟩
theorem nan_neg {k : FloatKind} {x : Nat} (hx : Fits k x) : NaN k (fneg k x) = NaN k x := by
  rw [nan_iff, nan_iff, (neg_fin hx).1]

theorem fits_neg {k : FloatKind} {x : Nat} (hx : Fits k x) : Fits k (fneg k x) := by
  have hr : rung k.format x < k.format.signWeight := Nat.mod_lt _ (Nat.two_pow_pos _)
  rw [← word_eta k.format x hx, neg_word k _ _ hr]
  unfold Fits Format.word
  split <;> omega
theorem sim_neg {k : FloatKind} {x y : Nat} (hx : Fits k x) (hy : Fits k y) (h : Sim k x y) : Sim k (fneg k x) (fneg k y) := by
  rcases h with rfl | ⟨h1, h2⟩
  · exact Sim.refl _ _
  · exact .inr ⟨by rw [nan_neg hx]; exact h1, by rw [nan_neg hy]; exact h2⟩
theorem fits_fop (op : BinOp) (k : FloatKind) (x y : Nat) : Fits k (fop op k x y) := by
  unfold fop
  cases h : floatBits op k x y with
  | some r => exact fits_of_wf (floatBits_wf h)
  | none => cases k <;> exact fits_of_wf (by decide)

/-! ### magnitudes -/
theorem fits_mod (x : Nat) : Fits .f64 (x % 9223372036854775808) := by
  have e2 : FloatKind.f64.format.signWeight = 9223372036854775808 := by decide +kernel
  have := Nat.mod_lt x (show 0 < 9223372036854775808 by decide)
  unfold Fits; rw [e2]; omega
theorem abs_rung (x : Nat) : rung FloatKind.f64.format (x % 9223372036854775808) = rung FloatKind.f64.format x ∧ sgn FloatKind.f64.format (x % 9223372036854775808) = false := by
  have e2 : FloatKind.f64.format.signWeight = 9223372036854775808 := by decide +kernel
  unfold rung sgn
  rw [e2, Nat.mod_mod, Nat.div_eq_of_lt (Nat.mod_lt x (by decide))]
  exact ⟨rfl, rfl⟩
theorem abs_nan (x : Nat) : NaN .f64 (x % 9223372036854775808) = NaN .f64 x := by rw [nan_iff, nan_iff, (abs_rung x).1]
theorem abs_sim {x y : Nat} (h : Sim .f64 x y) : Sim .f64 (x % 9223372036854775808) (y % 9223372036854775808) := by
  rcases h with rfl | ⟨h1, h2⟩
  · exact Sim.refl _ _
  · exact .inr ⟨by rw [abs_nan]; exact h1, by rw [abs_nan]; exact h2⟩
theorem abs_sv (x : Nat) : sv FloatKind.f64.format (x % 9223372036854775808) = mv FloatKind.f64.format (rung FloatKind.f64.format x) := by
  unfold sv; rw [(abs_rung x).1, (abs_rung x).2]; simp
/-- An infinity lies beyond every finite number. -/
theorem order_inf {k : FloatKind} {x y : Nat} (hx : rung k.format x = k.format.infRung) (hy : FinW k.format y) : k.format.order x y = some (if sgn k.format x then .lt else .gt) := by
  unfold Format.order
  rw [read_inf hx, read_fin hy]
  rfl
theorem order_to_inf {k : FloatKind} {x y : Nat} (hx : FinW k.format x) (hy : rung k.format y = k.format.infRung) : k.format.order x y = some (if sgn k.format y then .gt else .lt) := by
  unfold Format.order
  rw [read_inf hy, read_fin hx]
  rfl
theorem order_inf2 {k : FloatKind} {x y : Nat} (hx : rung k.format x = k.format.infRung) (hy : rung k.format y = k.format.infRung) : k.format.order x y = some (compare (sgn k.format y).toNat (sgn k.format x).toNat) := by
  unfold Format.order
  rw [read_inf hy, read_inf hx]
  rfl
theorem sim_eq {k : FloatKind} {x y : Nat} (h : Sim k x y) (hn : NaN k y = false) : x = y := by
  rcases h with h | ⟨_, h⟩
  · exact h
  · rw [hn] at h; cases h
theorem nan_of_fin {k : FloatKind} {x : Nat} (h : FinW k.format x) : NaN k x = false := by
  rw [nan_iff]; unfold FinW at h; simp; omega
theorem nan_of_inf {k : FloatKind} {x : Nat} (h : rung k.format x = k.format.infRung) : NaN k x = false := by
  rw [nan_iff, h]; simp
theorem fits_sgn {k : FloatKind} {x y : Nat} (hx : Fits k x) (hy : Fits k y) (h : rung k.format x = rung k.format y) (hs : sgn k.format x = sgn k.format y) : x = y := by
  rw [← word_eta k.format x hx, ← word_eta k.format y hy, h, hs]
/-- Two words that are no NaNs are one if and only if they are equal in Go's sense and have one sign. -/
theorem same_word {k : FloatKind} {a b : Nat} (ha : Fits k a) (hb : Fits k b) (na : NaN k a = false) (nb : NaN k b = false) :
    decide (a = b) = ((k.format.order a b == some .eq) && (sgn k.format a == sgn k.format b)) := by
  rw [Bool.eq_iff_iff, decide_eq_true_eq, Bool.and_eq_true, beq_iff_eq, beq_iff_eq]
  constructor
  · rintro rfl; exact ⟨order_self na, rfl⟩
  · rintro ⟨h, hs⟩
    rcases three k a with ga | ga | ga
    · rcases three k b with gb | gb | gb
      · rw [order_fin ga gb, cmp_int] at h
        have hv : sv k.format a = sv k.format b := by
          split at h
          · cases h
          · split at h
            · assumption
            · cases h
        refine fits_sgn ha hb (mv_inj k.format ?_) hs
        rw [← natAbs_sv, ← natAbs_sv, hv]
      · rw [order_to_inf ga gb] at h; split at h <;> cases h
      · rw [gb] at nb; cases nb
    · rcases three k b with gb | gb | gb
      · rw [order_inf ga gb] at h; split at h <;> cases h
      · exact fits_sgn ha hb (by rw [ga, gb]) hs
      · rw [gb] at nb; cases nb
    · rw [ga] at na; cases na
theorem fconv_up_sgn {x : Nat} (h : NaN .f32 x = false) : NaN .f64 (fconv .f32 x .f64) = false ∧ sgn Ieee.double (fconv .f32 x .f64) = sgn Ieee.single x := by
  rcases three .f32 x with g | g | g
  · obtain ⟨h1, h2, h3, h4⟩ := fconv_up g
    exact ⟨nan_of_fin (k := .f64) h1, h3⟩
  · have hc := conv_inf (s := .f32) (k := .f64) (by decide) g
    have e : fconv .f32 x .f64 = FloatKind.f64.format.word (sgn FloatKind.f32.format x) FloatKind.f64.format.infRung := by simp [fconv, hc]
    have hi : FloatKind.f64.format.infRung < FloatKind.f64.format.signWeight := Ieee.Format.infRung_lt _
    rw [e]
    exact ⟨nan_of_inf (rung_word _ _ hi), sgn_word _ _ hi⟩
  · rw [g] at h; cases h

/-! ### the small kind's words -/
theorem order_zero {k : FloatKind} {x : Nat} (hx : FinW k.format x) : (k.format.order x 0 == some .eq) = decide (rung k.format x = 0) := by
  rw [order_fin hx (fin_zero k), sv_zero, cmp_int]
  have h := natAbs_sv k.format x
  have h2 := mv_eq_zero k.format (rung k.format x)
  by_cases hr : rung k.format x = 0
  · have : sv k.format x = 0 := by have := h2.2 hr; omega
    simp [this, hr]
  · have : sv k.format x ≠ 0 := by
      intro h0; apply hr; apply h2.1; omega
    simp [hr]
    split <;> simp_all
theorem order_zero_inf {k : FloatKind} {x : Nat} (hx : rung k.format x = k.format.infRung) : (k.format.order x 0 == some .eq) = false := by
  rw [order_inf hx (fin_zero k)]; split <;> rfl

end Go.Proofs.Ytlabbakmlanfgaa.Flo
