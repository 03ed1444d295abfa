/- Floats' comparisons and conversions reckoned quickly by the kernel. No condition. -/
import Derived.Test.YtlabbakmlanfgaaKf
namespace Go.Proofs.Ytlabbakmlanfgaa.Kf
open Go Go.RowKit Iee Ieee Flo
set_option linter.unusedVariables false
set_option linter.unusedSimpArgs false

/-! ### comparisons -/
def kltC (s t : Bool) (r q : Nat) : Bool := cond s (cond t (Nat.ble (Nat.succ q) r) (not (Nat.beq (Nat.add r q) 0))) (cond t false (Nat.ble (Nat.succ r) q))
/-- Both are finite and x < y. -/
def kltG (sw inf x y : Nat) : Bool := kand (kand (kfin sw inf x) (kfin sw inf y)) (kltC (ksg sw x) (ksg sw y) (Nat.mod x sw) (Nat.mod y sw))
/-- Both are finite and x is not < y. -/
def kgeG (sw inf x y : Nat) : Bool := kand (kand (kfin sw inf x) (kfin sw inf y)) (not (kltC (ksg sw x) (ksg sw y) (Nat.mod x sw) (Nat.mod y sw)))
section
variable {k : FloatKind} {fb bn sw inf off : Nat}
theorem kltC_eq (c : KC k fb bn sw inf off) (x y : Nat) : kltC (ksg sw x) (ksg sw y) (Nat.mod x sw) (Nat.mod y sw) = decide (sv k.format x < sv k.format y) := by
  unfold kltC
  rw [ksg_eq c, ksg_eq c]
  have hx : Nat.mod x sw = rung k.format x := by unfold rung; rw [c.sw]; rfl
  have hy : Nat.mod y sw = rung k.format y := by unfold rung; rw [c.sw]; rfl
  rw [hx, hy]
  unfold sv
  have l1 := mv_lt_iff k.format (rung k.format x) (rung k.format y)
  have l2 := mv_lt_iff k.format (rung k.format y) (rung k.format x)
  have z1 := mv_eq_zero k.format (rung k.format x)
  have z2 := mv_eq_zero k.format (rung k.format y)
  generalize mv k.format (rung k.format x) = a at *
  generalize mv k.format (rung k.format y) = b at *
  generalize rung k.format x = r at *
  generalize rung k.format y = q at *
  simp only [ble_d, beq_d]
  cases sgn k.format x <;> cases sgn k.format y
  · simp only [cond_false, Bool.false_eq_true, if_false]
    rw [Bool.eq_iff_iff, decide_eq_true_eq, decide_eq_true_eq]
    omega
  · simp only [cond_false, cond_true, Bool.false_eq_true, if_false, if_true]
    have : ¬ (a : Int) < -(b : Int) := by omega
    simp [this]
  · simp only [cond_false, cond_true, Bool.false_eq_true, if_false, if_true]
    rw [Bool.eq_iff_iff, Bool.not_eq_true', decide_eq_false_iff_not, decide_eq_true_eq]
    show ¬ (r + q = 0) ↔ _
    omega
  · simp only [cond_true, if_true]
    rw [Bool.eq_iff_iff, decide_eq_true_eq, decide_eq_true_eq]
    omega
theorem klt_lt (c : KC k fb bn sw inf off) {x y : Nat} (h : kltG sw inf x y = true) : (k.format.order x y == some .lt) = true := by
  obtain ⟨h1, h2⟩ := kand_t h
  obtain ⟨hx, hy⟩ := kand_t h1
  rw [kfin_eq c] at hx hy
  rw [lt_fin (fin_iff.1 hx) (fin_iff.1 hy), ← kltC_eq c]
  exact h2
theorem klt_gt (c : KC k fb bn sw inf off) {x y : Nat} (h : kltG sw inf x y = true) : (k.format.order y x == some .gt) = true := by
  obtain ⟨h1, h2⟩ := kand_t h
  obtain ⟨hx, hy⟩ := kand_t h1
  rw [kfin_eq c] at hx hy
  rw [gt_fin (fin_iff.1 hy) (fin_iff.1 hx), ← kltC_eq c]
  exact h2
theorem kge_lt (c : KC k fb bn sw inf off) {x y : Nat} (h : kgeG sw inf x y = true) : (k.format.order x y == some .lt) = false := by
  obtain ⟨h1, h2⟩ := kand_t h
  obtain ⟨hx, hy⟩ := kand_t h1
  rw [kfin_eq c] at hx hy
  rw [lt_fin (fin_iff.1 hx) (fin_iff.1 hy), ← kltC_eq c]
  simpa using h2
theorem kge_gt (c : KC k fb bn sw inf off) {x y : Nat} (h : kgeG sw inf x y = true) : (k.format.order y x == some .gt) = false := by
  obtain ⟨h1, h2⟩ := kand_t h
  obtain ⟨hx, hy⟩ := kand_t h1
  rw [kfin_eq c] at hx hy
  rw [gt_fin (fin_iff.1 hy) (fin_iff.1 hx), ← kltC_eq c]
  simpa using h2
theorem kge_le (c : KC k fb bn sw inf off) {x y : Nat} (h : kgeG sw inf x y = true) : (k.format.order y x == some .lt || k.format.order y x == some .eq) = true := by
  obtain ⟨h1, h2⟩ := kand_t h
  obtain ⟨hx, hy⟩ := kand_t h1
  rw [kfin_eq c] at hx hy
  rw [kltC_eq c] at h2
  rw [le_fin (fin_iff.1 hy) (fin_iff.1 hx)]
  simp at h2
  simpa using h2
end
def klt64 (x y : Nat) : Bool := kltG 9223372036854775808 9218868437227405312 x y
def kge64 (x y : Nat) : Bool := kgeG 9223372036854775808 9218868437227405312 x y
def klt32 (x y : Nat) : Bool := kltG 2147483648 2139095040 x y
def kge32 (x y : Nat) : Bool := kgeG 2147483648 2139095040 x y
def kfin64 (x : Nat) : Bool := kfin 9223372036854775808 9218868437227405312 x
def kfin32 (x : Nat) : Bool := kfin 2147483648 2139095040 x
theorem nan64 {x : Nat} (h : kfin64 x = true) : NaN .f64 x = false := by
  unfold kfin64 at h
  rw [kfin_eq kc64] at h
  exact nan_of_fin (fin_iff.1 h)
theorem nan32 {x : Nat} (h : kfin32 x = true) : NaN .f32 x = false := by
  unfold kfin32 at h
  rw [kfin_eq kc32] at h
  exact nan_of_fin (fin_iff.1 h)

/-! ### conversions between the kinds -/
/-- The rung of the small kind. -/
def kdR (x : Nat) : Nat := nearK 23 8388608 3851 (kmg 4503599627370496 9223372036854775808 x) (Nat.add (kex 4503599627370496 9223372036854775808 x) 2926)
def kdn (x : Nat) : Nat := cond (ksg 9223372036854775808 x) (Nat.add 2147483648 (kdR x)) (kdR x)
/-- x is finite, and so is its conversion to the small kind. -/
def kdOk (x : Nat) : Bool := kand (kfin64 x) (Nat.ble (Nat.succ (kdR x)) 2139095040)
def kuR (x : Nat) : Nat := nearK 52 4503599627370496 2926 (kmg 8388608 2147483648 x) (Nat.add (kex 8388608 2147483648 x) 3851)
def kup (x : Nat) : Nat := cond (ksg 2147483648 x) (Nat.add 9223372036854775808 (kuR x)) (kuR x)
def kuOk (x : Nat) : Bool := kand (kfin32 x) (Nat.ble (Nat.succ (kuR x)) 9218868437227405312)
theorem conv_c {k d : FloatKind} {fb bn sw inf off fb2 bn2 sw2 inf2 off2 : Nat} (hne : k ≠ d) (c : KC k fb bn sw inf off) (c2 : KC d fb2 bn2 sw2 inf2 off2) {x : Nat} (hx : kfin sw inf x = true) {R : Nat} (hR : R = nearK fb2 bn2 off2 (kmg bn sw x) (Nat.add (kex bn sw x) off)) (hle : R < inf2) :
    floatToFloatBits k x d = some (cond (ksg sw x) (Nat.add sw2 R) R) := by
  unfold floatToFloatBits
  rw [if_neg hne]
  have hd : k.decode x = .number (ksg sw x) (kmg bn sw x) ((off : Int) - 4000 + (kex bn sw x : Nat)) := read_c c hx
  rw [hd]
  simp only
  have he : d.encode (.number (ksg sw x) (kmg bn sw x) ((off : Int) - 4000 + (kex bn sw x : Nat))) = d.format.word (ksg sw x) R := by
    show d.format.nearest _ _ _ = _
    have e3 : (off : Int) - 4000 + (kex bn sw x : Nat) = ((Nat.add (kex bn sw x) off : Nat) : Int) - 4000 := by
      show _ = ((kex bn sw x + off : Nat) : Int) - 4000
      omega
    rw [e3, near_c c2, ← hR, kw_eq c2, c2.inf, Nat.min_eq_left (by omega)]
  rw [he]
  have hri : R < d.format.infRung := by rw [c2.inf]; exact hle
  have hrs : R < d.format.signWeight := Nat.lt_trans hri d.format.infRung_lt
  have hF : FinW d.format (d.format.word (ksg sw x) R) := by unfold FinW; rw [rung_word _ _ hrs]; exact hri
  have hd2 : d.decode (d.format.word (ksg sw x) R) = _ := read_fin hF
  rw [hd2]
  simp only [Datum.isInfinity, Bool.false_eq_true, if_false]
  unfold Format.word
  rw [c2.sw]
  cases ksg sw x <;> rfl
theorem kdn_conv {x : Nat} (h : kdOk x = true) : fconv .f64 x .f32 = kdn x ∧ over .f64 x .f32 = false := by
  obtain ⟨h1, h2⟩ := kand_t h
  have h3 := Nat.le_of_ble_eq_true h2
  have e := conv_c (by decide) kc64 kc32 h1 (R := kdR x) rfl h3
  constructor
  · unfold fconv; rw [e]; rfl
  · unfold over; rw [e]; simp
theorem kup_conv {x : Nat} (h : kuOk x = true) : fconv .f32 x .f64 = kup x := by
  obtain ⟨h1, h2⟩ := kand_t h
  have h3 := Nat.le_of_ble_eq_true h2
  have e := conv_c (by decide) kc32 kc64 h1 (R := kuR x) rfl h3
  unfold fconv; rw [e]; rfl
end Go.Proofs.Ytlabbakmlanfgaa.Kf
