/- Ieee's words as whole numbers of least units: what a word is worth, when rounding is exact, how great a result can be. No condition. -/
import Ieee.Arith
import Derived.Laws.FloatBits
namespace Go.Proofs.Ytlabbakmlanfgaa.Iee
open Ieee

def mg (f : Format) (r : Nat) : Nat := if r < f.binade then r else f.binade + r % f.binade
def ex (f : Format) (r : Nat) : Nat := if r < f.binade then 0 else r / f.binade - 1
/-- What a rung is worth, in units of the least place. -/
def mv (f : Format) (r : Nat) : Nat := mg f r * 2 ^ ex f r
def rung (f : Format) (x : Nat) : Nat := x % f.signWeight
def sgn (f : Format) (x : Nat) : Bool := x / f.signWeight % 2 == 1
def sv (f : Format) (x : Nat) : Int := if sgn f x then -(mv f (rung f x) : Int) else mv f (rung f x)
def FinW (f : Format) (x : Nat) : Prop := rung f x < f.infRung

theorem binade_pos (f : Format) : 0 < f.binade := Nat.two_pow_pos _

theorem read_fin {f : Format} {x : Nat} (h : FinW f x) : f.read x = .number (sgn f x) (mg f (rung f x)) (f.leastPlace + ex f (rung f x)) := by
  unfold FinW rung at h
  unfold Format.read sgn mg ex rung
  simp only
  split
  · simp
  · rfl

/-! ### rounding -/
theorem cut_zero (neg : Bool) (n : Nat) : Toward.even.cut neg n 0 = n := by
  simp [Toward.cut, Nat.shiftLeft_eq, Nat.mod_one]

theorem log2_mul_pow (n t : Nat) (hn : n ≠ 0) : (n * 2 ^ t).log2 = n.log2 + t := by
  have h1 : n * 2 ^ t ≠ 0 := Nat.mul_ne_zero hn (Nat.ne_of_gt (Nat.two_pow_pos t))
  rw [Nat.log2_eq_iff h1]
  have a := Nat.log2_self_le hn
  have b := @Nat.lt_log2_self n
  constructor
  · rw [Nat.pow_add]; exact Nat.mul_le_mul_right _ a
  · rw [show n.log2 + t + 1 = n.log2 + 1 + t by omega, Nat.pow_add]
    exact Nat.mul_lt_mul_of_pos_right b (Nat.two_pow_pos t)

theorem cut_scale (neg : Bool) (n d t : Nat) (hn : n ≠ 0) : Toward.even.cut neg (n * 2 ^ t) (d + t) = Toward.even.cut neg n d := by
  unfold Toward.cut
  rw [log2_mul_pow n t hn]
  have hm : min (d + t) (n.log2 + t + 2) = min d (n.log2 + 2) + t := by omega
  rw [hm]
  simp only [Nat.shiftLeft_eq, Nat.one_mul]
  generalize min d (n.log2 + 2) = g
  have hp := Nat.two_pow_pos t
  have h1 : n * 2 ^ t / 2 ^ (g + t) = n / 2 ^ g := by rw [Nat.pow_add]; exact Nat.mul_div_mul_right _ _ hp
  have h2 : n * 2 ^ t % 2 ^ (g + t) = n % 2 ^ g * 2 ^ t := by rw [Nat.pow_add]; exact Nat.mul_mod_mul_right _ _ _
  rw [h1, h2]
  have h3 : (2 ^ (g + t) < 2 * (n % 2 ^ g * 2 ^ t)) ↔ (2 ^ g < 2 * (n % 2 ^ g)) := by
    rw [Nat.pow_add, ← Nat.mul_assoc]; exact Nat.mul_lt_mul_right hp
  have h4 : (2 ^ (g + t) = 2 * (n % 2 ^ g * 2 ^ t)) ↔ (2 ^ g = 2 * (n % 2 ^ g)) := by
    rw [Nat.pow_add, ← Nat.mul_assoc]; exact Nat.mul_left_inj (Nat.ne_of_gt hp)
  have e3 : decide (2 ^ (g + t) < 2 * (n % 2 ^ g * 2 ^ t)) = decide (2 ^ g < 2 * (n % 2 ^ g)) := by simp only [h3]
  have e4 : (2 ^ (g + t) == 2 * (n % 2 ^ g * 2 ^ t)) = (2 ^ g == 2 * (n % 2 ^ g)) := by
    rw [Bool.eq_iff_iff, beq_iff_eq, beq_iff_eq]; exact h4
  rw [e3, e4]

theorem cut_exact (neg : Bool) (n t : Nat) (hn : n ≠ 0) : Toward.even.cut neg (n * 2 ^ t) t = n := by
  have := cut_scale neg n 0 t hn
  rw [Nat.zero_add] at this
  rw [this, cut_zero]

theorem near_shift (f : Format) (neg : Bool) (m t : Nat) (p : Int) : f.nearest neg (m * 2 ^ t) p = f.nearest neg m (p + t) := by
  by_cases hm : m = 0
  · subst hm; simp [Format.nearest]
  · have h1 : m * 2 ^ t ≠ 0 := Nat.mul_ne_zero hm (Nat.ne_of_gt (Nat.two_pow_pos t))
    unfold Format.nearest
    rw [if_neg h1, if_neg hm, log2_mul_pow m t hm]
    simp only
    have hl : p + ((m.log2 + t : Nat) : Int) - f.fractionBits = p + t + m.log2 - f.fractionBits := by omega
    rw [hl]
    generalize max (p + t + (m.log2 : Int) - f.fractionBits) f.leastPlace = last
    congr 3
    simp only [Nat.shiftLeft_eq]
    by_cases hD : last - p ≤ 0
    · have a1 : (last - p).toNat = 0 := by omega
      have a2 : (last - (p + t)).toNat = 0 := by omega
      have a3 : (p + t - last).toNat = t + (p - last).toNat := by omega
      rw [a1, a2, a3, cut_zero, cut_zero, Nat.pow_add, Nat.mul_assoc]
    · by_cases hD2 : last - p ≤ t
      · have a0 : (p - last).toNat = 0 := by omega
        have a2 : (last - (p + t)).toNat = 0 := by omega
        obtain ⟨D, hDe⟩ : ∃ D : Nat, last - p = D := ⟨(last - p).toNat, by omega⟩
        have a1 : (last - p).toNat = D := by omega
        have a3 : (p + t - last).toNat = t - D := by omega
        rw [a0, a1, a2, a3, cut_zero, Nat.pow_zero, Nat.mul_one]
        have e : m * 2 ^ t = (m * 2 ^ (t - D)) * 2 ^ D := by rw [Nat.mul_assoc, ← Nat.pow_add]; congr 2; omega
        rw [e]
        exact cut_exact neg _ _ (Nat.mul_ne_zero hm (Nat.ne_of_gt (Nat.two_pow_pos _)))
      · have a0 : (p - last).toNat = 0 := by omega
        have a3 : (p + t - last).toNat = 0 := by omega
        obtain ⟨D, hDe⟩ : ∃ D : Nat, last - p = D + t := ⟨(last - p - t).toNat, by omega⟩
        have a1 : (last - p).toNat = D + t := by omega
        have a2 : (last - (p + t)).toNat = D := by omega
        rw [a0, a1, a2, a3, Nat.pow_zero, Nat.mul_one, Nat.mul_one]
        exact cut_scale neg m D t hm

/-- The rung nearest to V units. -/
def rg (f : Format) (V : Nat) : Nat := (V.log2 - f.fractionBits) * f.binade + Toward.even.cut false V (V.log2 - f.fractionBits)

theorem near_lp (f : Format) (neg : Bool) (V : Nat) : f.nearest neg V f.leastPlace = f.word neg (min (rg f V) f.infRung) := by
  unfold Format.nearest rg
  by_cases hV : V = 0
  · subst hV
    have : Nat.log2 0 = 0 := by decide
    simp [this, cut_zero]
  · rw [if_neg hV]
    simp only
    have hl : max (f.leastPlace + (V.log2 : Int) - f.fractionBits) f.leastPlace = f.leastPlace + ((V.log2 - f.fractionBits : Nat) : Int) := by omega
    rw [hl]
    generalize V.log2 - f.fractionBits = d
    have a1 : (f.leastPlace - (f.leastPlace + (d : Int))).toNat = 0 := by omega
    have a2 : (f.leastPlace + (d : Int) - f.leastPlace).toNat = d := by omega
    rw [a1, a2]
    simp only [Nat.shiftLeft_zero]
    rfl

theorem near_V (f : Format) (neg : Bool) (m p : Nat) : f.nearest neg m (f.leastPlace + p) = f.word neg (min (rg f (m * 2 ^ p)) f.infRung) := by
  rw [← near_shift, near_lp]

theorem cut_le (neg : Bool) (n d : Nat) : Toward.even.cut neg n d ≤ n / 2 ^ (min d (n.log2 + 2)) + 1 := by
  unfold Toward.cut
  simp only [Nat.shiftLeft_eq, Nat.one_mul]
  refine Nat.add_le_add_left ?_ _
  exact Bool.toNat_le _

theorem mv_rg (f : Format) (V m e : Nat) (hV : V = m * 2 ^ e) (hm : m < 2 ^ (f.fractionBits + 1)) : mv f (rg f V) = V := by
  by_cases h0 : V = 0
  · rw [h0]
    have : Nat.log2 0 = 0 := by decide
    simp [rg, this, cut_zero, mv, mg, ex, binade_pos f]
  · have hm0 : m ≠ 0 := by intro h; subst h; simp at hV; exact h0 hV
    have hB : f.binade = 2 ^ f.fractionBits := rfl
    have hlm : m.log2 ≤ f.fractionBits := by
      have := (Nat.log2_lt hm0).2 hm
      omega
    have hl : V.log2 = m.log2 + e := by rw [hV]; exact log2_mul_pow m e hm0
    have hlt := @Nat.lt_log2_self V
    have hle := Nat.log2_self_le h0
    by_cases hd : V.log2 ≤ f.fractionBits
    · have hd0 : V.log2 - f.fractionBits = 0 := by omega
      have hr : rg f V = V := by unfold rg; rw [hd0, cut_zero]; simp
      rw [hr]
      have hV2 : V < 2 * f.binade := by
        rw [hB, ← Nat.pow_succ']
        exact Nat.lt_of_lt_of_le hlt (Nat.pow_le_pow_right (by decide) (by omega))
      unfold mv mg ex
      by_cases hb : V < f.binade
      · rw [if_pos hb, if_pos hb]; simp
      · have hq : V / f.binade = 1 := by
          rw [Nat.div_eq_iff (binade_pos f)]; omega
        have hr2 : V % f.binade = V - f.binade := by
          rw [Nat.mod_eq_sub_mod (by omega), Nat.mod_eq_of_lt (by omega)]
        rw [if_neg hb, if_neg hb, hq, hr2]; simp; omega
    · obtain ⟨d, hd2⟩ : ∃ d, V.log2 = f.fractionBits + d ∧ 0 < d := ⟨V.log2 - f.fractionBits, by omega, by omega⟩
      obtain ⟨hd2, hd0⟩ := hd2
      have hed : d ≤ e := by omega
      have hk : V = (m * 2 ^ (e - d)) * 2 ^ d := by rw [hV, Nat.mul_assoc, ← Nat.pow_add]; congr 2; omega
      generalize m * 2 ^ (e - d) = k at hk
      have hp := Nat.two_pow_pos d
      have hk1 : f.binade ≤ k := by
        rw [hd2, Nat.pow_add] at hle
        rw [hk] at hle
        exact Nat.le_of_mul_le_mul_right hle hp
      have hk2 : k < 2 * f.binade := by
        rw [hd2, show f.fractionBits + d + 1 = (f.fractionBits + 1) + d by omega, Nat.pow_add, hk] at hlt
        have := Nat.lt_of_mul_lt_mul_right hlt
        rw [hB, ← Nat.pow_succ']; exact this
      have hk0 : k ≠ 0 := by have := binade_pos f; omega
      have hr : rg f V = d * f.binade + k := by
        unfold rg
        rw [hd2, Nat.add_sub_cancel_left]
        rw [hk, cut_exact false k d hk0]
      rw [hr]
      have hq : (d * f.binade + k) / f.binade = d + 1 := by
        rw [Nat.div_eq_iff (binade_pos f), Nat.add_mul]; omega
      have hm2 : (d * f.binade + k) % f.binade = k - f.binade := by
        rw [Nat.mul_comm, Nat.mul_add_mod, Nat.mod_eq_sub_mod hk1, Nat.mod_eq_of_lt (by omega)]
      have hnb : ¬ (d * f.binade + k) < f.binade := by
        have : 0 ≤ d * f.binade := Nat.zero_le _
        omega
      unfold mv mg ex
      rw [if_neg hnb, if_neg hnb, hq, hm2, hk]
      congr 1
      omega

theorem mg_lt (f : Format) (r : Nat) : mg f r < 2 ^ (f.fractionBits + 1) := by
  have hB : f.binade = 2 ^ f.fractionBits := rfl
  have := Nat.mod_lt r (binade_pos f)
  unfold mg
  rw [Nat.pow_succ, ← hB]
  split <;> omega

theorem mv_lt_step (f : Format) (r : Nat) : mv f r < mv f (r + 1) := by
  have hp := binade_pos f
  unfold mv mg ex
  by_cases h : r + 1 < f.binade
  · rw [if_pos h, if_pos (by omega), if_pos h, if_pos (by omega)]; simp
  · by_cases h2 : r < f.binade
    · have e : r + 1 = f.binade := by omega
      rw [if_pos h2, if_pos h2, if_neg h, if_neg h, e, Nat.mod_self, Nat.div_self hp]; simp; omega
    · rw [if_neg h2, if_neg h2, if_neg h, if_neg h]
      by_cases hc : r % f.binade + 1 < f.binade
      · have e1 : (r + 1) % f.binade = r % f.binade + 1 := by
          rw [Nat.add_mod, Nat.mod_eq_of_lt (a := 1) (by omega), Nat.mod_eq_of_lt hc]
        have e2 : (r + 1) / f.binade = r / f.binade := by
          rw [Nat.div_eq_iff hp]
          have := Nat.div_add_mod r f.binade
          rw [Nat.mul_comm] at this
          omega
        rw [e1, e2]
        exact Nat.mul_lt_mul_of_pos_right (by omega) (Nat.two_pow_pos _)
      · have hm := Nat.mod_lt r hp
        have hda := Nat.div_add_mod r f.binade
        rw [Nat.mul_comm] at hda
        have hq1 : 1 ≤ r / f.binade := (Nat.le_div_iff_mul_le hp).2 (by omega)
        have e2 : (r + 1) / f.binade = r / f.binade + 1 := by
          rw [Nat.div_eq_iff hp, Nat.add_mul]; omega
        have e1 : (r + 1) % f.binade = 0 := by
          have := Nat.div_add_mod (r + 1) f.binade
          rw [e2, Nat.mul_comm, Nat.add_mul] at this
          omega
        rw [e1, e2]
        obtain ⟨q, hq⟩ : ∃ q, r / f.binade = q + 1 := ⟨r / f.binade - 1, by omega⟩
        rw [hq]
        have : (q + 1 + 1 - 1) = q + 1 := rfl
        rw [this, show q + 1 - 1 = q from rfl, Nat.pow_succ]
        have hmv : (f.binade + r % f.binade) < 2 * f.binade := by omega
        calc (f.binade + r % f.binade) * 2 ^ q < (2 * f.binade) * 2 ^ q := Nat.mul_lt_mul_of_pos_right hmv (Nat.two_pow_pos _)
          _ = (f.binade + 0) * (2 ^ q * 2) := by rw [Nat.add_zero, Nat.mul_comm 2, Nat.mul_assoc, Nat.mul_comm 2]

theorem mv_lt (f : Format) {r s : Nat} (h : r < s) : mv f r < mv f s := by
  induction s with
  | zero => omega
  | succ s ih =>
    by_cases e : r = s
    · subst e; exact mv_lt_step f r
    · exact Nat.lt_trans (ih (by omega)) (mv_lt_step f s)
theorem mv_lt_iff (f : Format) (r s : Nat) : mv f r < mv f s ↔ r < s := by
  constructor
  · intro h
    rcases Nat.lt_trichotomy r s with a | a | a
    · exact a
    · subst a; omega
    · have := mv_lt f a; omega
  · exact mv_lt f
theorem mv_inj (f : Format) {r s : Nat} (h : mv f r = mv f s) : r = s := by
  rcases Nat.lt_trichotomy r s with a | a | a
  · have := mv_lt f a; omega
  · exact a
  · have := mv_lt f a; omega
theorem mv_le_iff (f : Format) (r s : Nat) : mv f r ≤ mv f s ↔ r ≤ s := by
  have := mv_lt_iff f s r; omega
theorem rg_mv (f : Format) (r : Nat) : rg f (mv f r) = r := mv_inj f (mv_rg f (mv f r) (mg f r) (ex f r) rfl (mg_lt f r))
theorem mv_zero (f : Format) : mv f 0 = 0 := by simp [mv, mg, ex, binade_pos f]
theorem mv_eq_zero (f : Format) (r : Nat) : mv f r = 0 ↔ r = 0 := by
  constructor
  · intro h; exact mv_inj f (by rw [h, mv_zero])
  · rintro rfl; exact mv_zero f
/-- The rung c·2^fb is worth the power of two 2^(fb+c-1). -/
theorem mv_pow (f : Format) (c : Nat) : mv f ((c + 1) * f.binade) = 2 ^ (f.fractionBits + c) := by
  have hp := binade_pos f
  have hn : ¬ (c + 1) * f.binade < f.binade := by
    have : f.binade ≤ (c + 1) * f.binade := Nat.le_mul_of_pos_left _ (by omega)
    omega
  unfold mv mg ex
  rw [if_neg hn, if_neg hn, Nat.mul_mod_left, Nat.mul_div_cancel _ hp, Nat.add_sub_cancel, Nat.add_zero, Nat.pow_add]
  rfl

theorem rg_le (f : Format) (V c : Nat) (h : V ≤ 2 ^ (f.fractionBits + c)) : rg f V ≤ (c + 1) * f.binade := by
  by_cases h0 : V = 0
  · rw [h0]
    have : Nat.log2 0 = 0 := by decide
    simp [rg, this, cut_zero]
  · have hB : f.binade = 2 ^ f.fractionBits := rfl
    have hl : V.log2 ≤ f.fractionBits + c := by
      have a := Nat.log2_self_le h0
      have := Nat.le_trans a h
      exact (Nat.pow_le_pow_iff_right (by decide)).1 this
    have hlt := @Nat.lt_log2_self V
    by_cases hd : V.log2 = f.fractionBits + c
    · have hle := Nat.log2_self_le h0
      rw [hd] at hle
      have hV : V = 2 ^ f.fractionBits * 2 ^ c := by rw [← Nat.pow_add]; omega
      unfold rg
      rw [hd, Nat.add_sub_cancel_left]
      have := cut_exact false (2 ^ f.fractionBits) c (Nat.ne_of_gt (Nat.two_pow_pos _))
      rw [hV, this, Nat.add_mul, ← hB]; omega
    · unfold rg
      generalize hdd : V.log2 - f.fractionBits = d
      by_cases hd0 : d = 0
      · subst hd0
        rw [cut_zero]
        have hVlt : V < 2 ^ (f.fractionBits + c) := by
          refine Nat.lt_of_lt_of_le hlt (Nat.pow_le_pow_right (by decide) (by omega))
        by_cases hc : c = 0
        · subst hc; simp at hVlt ⊢; rw [hB]; omega
        · have : V < 2 ^ (f.fractionBits + 1) := Nat.lt_of_lt_of_le hlt (Nat.pow_le_pow_right (by decide) (by omega))
          rw [Nat.pow_succ, ← hB] at this
          have h2 : 2 * f.binade ≤ (c + 1) * f.binade := Nat.mul_le_mul_right _ (by omega)
          omega
      · have hc := cut_le false V d
        have hmin : min d (V.log2 + 2) = d := by omega
        rw [hmin] at hc
        have hq : V / 2 ^ d < 2 ^ (f.fractionBits + 1) := by
          rw [Nat.div_lt_iff_lt_mul (Nat.two_pow_pos _), ← Nat.pow_add]
          refine Nat.lt_of_lt_of_le hlt (Nat.pow_le_pow_right (by decide) (by omega))
        rw [Nat.pow_succ, ← hB] at hq
        have hdc : d + 2 ≤ c + 1 := by omega
        have h2 : (d + 2) * f.binade ≤ (c + 1) * f.binade := Nat.mul_le_mul_right _ hdc
        rw [Nat.add_mul] at h2
        omega

theorem rg_ge (f : Format) (V c : Nat) (h : 2 ^ (f.fractionBits + c) ≤ V) : (c + 1) * f.binade ≤ rg f V := by
  have hV : V ≠ 0 := by have := Nat.two_pow_pos (f.fractionBits + c); omega
  have hl : f.fractionBits + c ≤ V.log2 := (Nat.le_log2 hV).2 h
  have hle := Nat.log2_self_le hV
  unfold rg
  generalize hd : V.log2 - f.fractionBits = d
  have hcut : 2 ^ f.fractionBits ≤ Toward.even.cut false V d := by
    have h1 : 2 ^ f.fractionBits ≤ V / 2 ^ d := by
      rw [Nat.le_div_iff_mul_le (Nat.two_pow_pos _), ← Nat.pow_add]
      exact Nat.le_trans (Nat.pow_le_pow_right (by decide) (by omega)) hle
    refine Nat.le_trans h1 ?_
    unfold Toward.cut
    simp only [Nat.shiftLeft_eq, Nat.one_mul]
    rw [Nat.min_eq_left (by omega)]
    omega
  have hB : f.binade = 2 ^ f.fractionBits := rfl
  have h2 : c * f.binade ≤ d * f.binade := Nat.mul_le_mul_right _ (by omega)
  rw [Nat.add_mul, Nat.one_mul]
  omega

/-! ### words -/
theorem rung_word (f : Format) (neg : Bool) {r : Nat} (h : r < f.signWeight) : rung f (f.word neg r) = r := by
  unfold rung Format.word
  cases neg
  · simp [Nat.mod_eq_of_lt h]
  · simp [Nat.mod_eq_of_lt h]
theorem sgn_word (f : Format) (neg : Bool) {r : Nat} (h : r < f.signWeight) : sgn f (f.word neg r) = neg := by
  unfold sgn Format.word
  have hp : 0 < f.signWeight := Nat.two_pow_pos _
  cases neg
  · simp [Nat.div_eq_of_lt h]
  · have : (f.signWeight + r) / f.signWeight = 1 := by rw [Nat.div_eq_iff hp]; omega
    simp [this]
theorem min_inf_lt (f : Format) (r : Nat) : min r f.infRung < f.signWeight := Nat.lt_of_le_of_lt (Nat.min_le_right ..) f.infRung_lt
theorem word_eta (f : Format) (x : Nat) (h : x < 2 * f.signWeight) : f.word (sgn f x) (rung f x) = x := by
  have hp : 0 < f.signWeight := Nat.two_pow_pos _
  have hd := Nat.div_add_mod x f.signWeight
  have : x / f.signWeight < 2 := (Nat.div_lt_iff_lt_mul hp).2 h
  unfold Format.word sgn rung
  have h2 : x / f.signWeight = 0 ∨ x / f.signWeight = 1 := by
    generalize x / f.signWeight = q at this
    omega
  rcases h2 with e | e
  · rw [e] at hd ⊢
    rw [if_neg (by decide)]; omega
  · rw [e] at hd ⊢
    rw [if_pos (by decide)]; omega
theorem sv_word (f : Format) (neg : Bool) {r : Nat} (h : r < f.signWeight) : sv f (f.word neg r) = if neg then -(mv f r : Int) else mv f r := by
  unfold sv; rw [rung_word f neg h, sgn_word f neg h]
theorem natAbs_sv (f : Format) (x : Nat) : (sv f x).natAbs = mv f (rung f x) := by
  unfold sv; split <;> simp

/-! ### comparison -/
theorem cmp_int (a b : Int) : compare a b = if a < b then .lt else if a = b then .eq else .gt := rfl
theorem cmp_scale (a b : Int) (k : Nat) : compare (a * (2 ^ k : Nat)) (b * (2 ^ k : Nat)) = compare a b := by
  have hp : (0 : Int) < ((2 ^ k : Nat) : Int) := by have := Nat.two_pow_pos k; omega
  have h1 : a * (2 ^ k : Nat) < b * (2 ^ k : Nat) ↔ a < b := Int.mul_lt_mul_right hp
  have h2 : a * (2 ^ k : Nat) = b * (2 ^ k : Nat) ↔ a = b := ⟨fun h => Int.eq_of_mul_eq_mul_right (by omega) h, fun h => by rw [h]⟩
  rw [cmp_int, cmp_int]
  simp only [h1, h2]
theorem signed_eq (s : Bool) (m up : Nat) : signed s m up = (if s then -(m : Int) else m) * (2 ^ up : Nat) := by
  unfold signed
  rw [Nat.shiftLeft_eq]
  split <;> simp [Int.neg_mul]
theorem sv_eq (f : Format) (x : Nat) : sv f x = (if sgn f x then -(mg f (rung f x) : Int) else mg f (rung f x)) * (2 ^ ex f (rung f x) : Nat) := by
  unfold sv mv
  split <;> simp [Int.neg_mul]
theorem sv_signed (f : Format) (x b : Nat) (hb : b ≤ ex f (rung f x)) : sv f x = signed (sgn f x) (mg f (rung f x)) (ex f (rung f x) - b) * (2 ^ b : Nat) := by
  rw [signed_eq, sv_eq, Int.mul_assoc, ← Int.natCast_mul, ← Nat.pow_add, Nat.sub_add_cancel hb]

theorem order_fin {f : Format} {x y : Nat} (hx : FinW f x) (hy : FinW f y) : f.order x y = some (compare (sv f x) (sv f y)) := by
  unfold Format.order
  rw [read_fin hx, read_fin hy]
  unfold Datum.order
  simp only
  congr 1
  have hb : min (f.leastPlace + (ex f (rung f x) : Int)) (f.leastPlace + (ex f (rung f y) : Int)) = f.leastPlace + ((min (ex f (rung f x)) (ex f (rung f y)) : Nat) : Int) := by omega
  rw [hb]
  generalize hbb : min (ex f (rung f x)) (ex f (rung f y)) = b
  have e1 : (f.leastPlace + (ex f (rung f x) : Int) - (f.leastPlace + (b : Int))).toNat = ex f (rung f x) - b := by omega
  have e2 : (f.leastPlace + (ex f (rung f y) : Int) - (f.leastPlace + (b : Int))).toNat = ex f (rung f y) - b := by omega
  rw [e1, e2, sv_signed f x b (by omega), sv_signed f y b (by omega), cmp_scale]

/-! ### sums -/
theorem sum_fin (f : Format) (s t : Bool) (m n a b : Nat) :
    ((Datum.number s m (f.leastPlace + (a : Int))).sum (.number t n (f.leastPlace + (b : Int)))).map f.write =
      some (f.word (if (if s then -(m : Int) else m) * (2 ^ a : Nat) + (if t then -(n : Int) else n) * (2 ^ b : Nat) = 0 then s && t else decide ((if s then -(m : Int) else m) * (2 ^ a : Nat) + (if t then -(n : Int) else n) * (2 ^ b : Nat) < 0))
        (min (rg f ((if s then -(m : Int) else m) * (2 ^ a : Nat) + (if t then -(n : Int) else n) * (2 ^ b : Nat)).natAbs) f.infRung)) := by
  unfold Datum.sum
  simp only [Option.map_some, Format.write]
  have hb : min (f.leastPlace + (a : Int)) (f.leastPlace + (b : Int)) = f.leastPlace + ((min a b : Nat) : Int) := by omega
  rw [hb]
  generalize hbb : min a b = c
  have e1 : (f.leastPlace + (a : Int) - (f.leastPlace + (c : Int))).toNat = a - c := by omega
  have e2 : (f.leastPlace + (b : Int) - (f.leastPlace + (c : Int))).toNat = b - c := by omega
  rw [e1, e2, near_V]
  have h1 : (if s then -(m : Int) else m) * (2 ^ a : Nat) = signed s m (a - c) * (2 ^ c : Nat) := by
    rw [signed_eq, Int.mul_assoc, ← Int.natCast_mul, ← Nat.pow_add, Nat.sub_add_cancel (by omega)]
  have h2 : (if t then -(n : Int) else n) * (2 ^ b : Nat) = signed t n (b - c) * (2 ^ c : Nat) := by
    rw [signed_eq, Int.mul_assoc, ← Int.natCast_mul, ← Nat.pow_add, Nat.sub_add_cancel (by omega)]
  rw [h1, h2, ← Int.add_mul]
  generalize signed s m (a - c) + signed t n (b - c) = T
  have hp : (0 : Int) < ((2 ^ c : Nat) : Int) := by have := Nat.two_pow_pos c; omega
  have g1 : T * (2 ^ c : Nat) = 0 ↔ T = 0 := by
    rw [Int.mul_eq_zero]; constructor
    · rintro (h | h); exact h; omega
    · exact .inl
  have g2 : T * (2 ^ c : Nat) < 0 ↔ T < 0 := by
    constructor
    · intro h
      rcases Int.lt_or_le T 0 with h' | h'
      · exact h'
      · have := Int.mul_nonneg h' (Int.le_of_lt hp); omega
    · intro h; exact Int.mul_neg_of_neg_of_pos h hp
  simp only [g1, g2]
  rw [Int.natAbs_mul]
  simp only [Int.natAbs_natCast]

theorem add_fin {f : Format} {x y : Nat} (hx : FinW f x) (hy : FinW f y) : f.add x y =
    some (f.word (if sv f x + sv f y = 0 then sgn f x && sgn f y else decide (sv f x + sv f y < 0)) (min (rg f (sv f x + sv f y).natAbs) f.infRung)) := by
  unfold Format.add
  rw [read_fin hx, read_fin hy, sum_fin, sv_eq, sv_eq]
theorem sub_fin {f : Format} {x y : Nat} (hx : FinW f x) (hy : FinW f y) : f.sub x y =
    some (f.word (if sv f x - sv f y = 0 then sgn f x && !sgn f y else decide (sv f x - sv f y < 0)) (min (rg f (sv f x - sv f y).natAbs) f.infRung)) := by
  unfold Format.sub
  rw [read_fin hx, read_fin hy]
  unfold Datum.opposite
  simp only
  rw [sum_fin, sv_eq, sv_eq]
  have e : (if (!sgn f y) = true then -(mg f (rung f y) : Int) else mg f (rung f y)) * (2 ^ ex f (rung f y) : Nat) = -((if sgn f y then -(mg f (rung f y) : Int) else mg f (rung f y)) * (2 ^ ex f (rung f y) : Nat)) := by
    cases sgn f y <;> simp [Int.neg_mul]
  rw [e, ← Int.sub_eq_add_neg]

/-! ### how great a rounded result can be -/
theorem near_le (f : Format) (neg : Bool) (mag q c : Nat) (h : mag ≤ 2 ^ (f.fractionBits + c + q)) :
    ∃ r, f.nearest neg mag (f.leastPlace - q) = f.word neg r ∧ r ≤ (c + 1) * f.binade ∧ r ≤ f.infRung := by
  by_cases h0 : mag = 0
  · subst h0
    exact ⟨0, by simp [Format.nearest], Nat.zero_le _, Nat.zero_le _⟩
  · have hB : f.binade = 2 ^ f.fractionBits := rfl
    have hlt := @Nat.lt_log2_self mag
    have hle := Nat.log2_self_le h0
    have hL : mag.log2 ≤ f.fractionBits + c + q := (Nat.pow_le_pow_iff_right (by decide)).1 (Nat.le_trans hle h)
    refine ⟨min ((mag.log2 - (q + f.fractionBits)) * f.binade + Toward.even.cut neg mag (mag.log2 - (q + f.fractionBits) + q)) f.infRung, ?_, ?_, Nat.min_le_right _ _⟩
    · unfold Format.nearest
      rw [if_neg h0]
      simp only
      have hl : max (f.leastPlace - (q : Int) + (mag.log2 : Int) - f.fractionBits) f.leastPlace = f.leastPlace + ((mag.log2 - (q + f.fractionBits) : Nat) : Int) := by omega
      rw [hl]
      generalize mag.log2 - (q + f.fractionBits) = d
      have a0 : (f.leastPlace - (q : Int) - (f.leastPlace + (d : Int))).toNat = 0 := by omega
      have a1 : (f.leastPlace + (d : Int) - (f.leastPlace - (q : Int))).toNat = d + q := by omega
      have a2 : (f.leastPlace + (d : Int) - f.leastPlace).toNat = d := by omega
      rw [a0, a1, a2, Nat.shiftLeft_zero]
    · refine Nat.le_trans (Nat.min_le_left _ _) ?_
      generalize hdd : mag.log2 - (q + f.fractionBits) = d
      have hc := cut_le neg mag (d + q)
      by_cases hex : mag.log2 = f.fractionBits + c + q
      · -- the power of two itself
        have hm : mag = 2 ^ f.fractionBits * 2 ^ (c + q) := by
          rw [← Nat.pow_add]; rw [hex] at hle
          have e : f.fractionBits + (c + q) = f.fractionBits + c + q := by omega
          rw [e]; omega
        have hd : d = c := by omega
        rw [hd, hm, cut_exact neg _ _ (Nat.ne_of_gt (Nat.two_pow_pos _)), Nat.add_mul, ← hB]; omega
      · have hbin : 0 < f.binade := binade_pos f
        by_cases hlow : mag.log2 < q + f.fractionBits
        · have hd : d = 0 := by omega
          subst hd
          rw [Nat.zero_add] at hc
          have hk : mag / 2 ^ min q (mag.log2 + 2) < 2 ^ f.fractionBits := by
            by_cases hq : q ≤ mag.log2 + 2
            · rw [Nat.min_eq_left hq, Nat.div_lt_iff_lt_mul (Nat.two_pow_pos _), ← Nat.pow_add]
              exact Nat.lt_of_lt_of_le hlt (Nat.pow_le_pow_right (by decide) (by omega))
            · rw [Nat.min_eq_right (by omega), Nat.div_eq_of_lt (Nat.lt_of_lt_of_le hlt (Nat.pow_le_pow_right (by decide) (by omega)))]
              exact Nat.two_pow_pos _
          have : f.binade ≤ (c + 1) * f.binade := Nat.le_mul_of_pos_left _ (by omega)
          simp only [Nat.zero_mul, Nat.zero_add]
          omega
        · have hmin : min (d + q) (mag.log2 + 2) = d + q := by omega
          rw [hmin] at hc
          have hk : mag / 2 ^ (d + q) < 2 ^ (f.fractionBits + 1) := by
            rw [Nat.div_lt_iff_lt_mul (Nat.two_pow_pos _), ← Nat.pow_add]
            exact Nat.lt_of_lt_of_le hlt (Nat.pow_le_pow_right (by decide) (by omega))
          rw [Nat.pow_succ, ← hB] at hk
          have hdc : d + 2 ≤ c + 1 := by omega
          have h2 : (d + 2) * f.binade ≤ (c + 1) * f.binade := Nat.mul_le_mul_right _ hdc
          rw [Nat.add_mul] at h2
          omega

/-! ### products and quotients -/
theorem mul_fin {f : Format} {x y : Nat} (hx : FinW f x) (hy : FinW f y) : f.mul x y = some (f.nearest (sgn f x ^^ sgn f y) (mv f (rung f x) * mv f (rung f y)) (f.leastPlace + f.leastPlace)) := by
  unfold Format.mul
  rw [read_fin hx, read_fin hy]
  unfold Datum.product
  simp only [Option.map_some, Format.write]
  congr 1
  have e : mv f (rung f x) * mv f (rung f y) = mg f (rung f x) * mg f (rung f y) * 2 ^ (ex f (rung f x) + ex f (rung f y)) := by
    unfold mv
    rw [Nat.pow_add, Nat.mul_mul_mul_comm]
  rw [e, near_shift]
  congr 1
  omega

theorem mul_le {f : Format} {x y : Nat} (P c : Nat) (hP : f.leastPlace = -(P : Int)) (hx : FinW f x) (hy : FinW f y) (h : mv f (rung f x) * mv f (rung f y) ≤ 2 ^ (f.fractionBits + c + P)) :
    ∃ r, f.mul x y = some (f.word (sgn f x ^^ sgn f y) r) ∧ r ≤ (c + 1) * f.binade ∧ r ≤ f.infRung := by
  rw [mul_fin hx hy]
  obtain ⟨r, h1, h2, h3⟩ := near_le f (sgn f x ^^ sgn f y) _ P c h
  refine ⟨r, ?_, h2, h3⟩
  rw [← h1]
  congr 2
  omega

theorem mg_ne_zero {f : Format} {r : Nat} (h : r ≠ 0) : mg f r ≠ 0 := by
  have := binade_pos f
  unfold mg; split <;> omega

/-- x / y, y at least 1: no greater than x's bound. -/
theorem div_le {f : Format} {x y : Nat} (P c : Nat) (hP : f.leastPlace = -(P : Int)) (hx : FinW f x) (hy : FinW f y) (hfb : f.fractionBits ≤ P)
    (h : mv f (rung f x) ≤ 2 ^ (f.fractionBits + c)) (h1 : 2 ^ P ≤ mv f (rung f y)) :
    ∃ r, f.div x y = some (f.word (sgn f x ^^ sgn f y) r) ∧ r ≤ (c + 1) * f.binade ∧ r ≤ f.infRung := by
  unfold Format.div
  rw [read_fin hx, read_fin hy]
  unfold Datum.quotient
  have hn0 : mg f (rung f y) ≠ 0 := by
    intro h0
    unfold mv at h1
    rw [h0, Nat.zero_mul] at h1
    have := Nat.two_pow_pos P; omega
  simp only [if_neg hn0, Option.map_some, Format.write]
  have hnorm : 2 ^ f.fractionBits ≤ mg f (rung f y) := by
    have hB : f.binade = 2 ^ f.fractionBits := rfl
    have hPP : 2 ^ f.fractionBits ≤ 2 ^ P := Nat.pow_le_pow_right (by decide) hfb
    unfold mv mg ex at h1
    unfold mg
    split <;> rename_i hlt
    · rw [if_pos hlt, if_pos hlt] at h1; simp at h1; omega
    · omega
  unfold mv at h h1
  have hmlt := mg_lt f (rung f x)
  have hnlt := mg_lt f (rung f y)
  generalize mg f (rung f x) = m at *
  generalize mg f (rung f y) = n at *
  generalize ex f (rung f x) = a at *
  generalize ex f (rung f y) = b at *
  generalize hmore : f.fractionBits + 2 + n.log2 - m.log2 = more
  rw [Nat.shiftLeft_eq]
  by_cases hm0 : m = 0
  · subst hm0
    refine ⟨0, ?_, Nat.zero_le _, Nat.zero_le _⟩
    simp [Format.nearest]
  · have hlm : m.log2 ≤ f.fractionBits := by
      have := (Nat.log2_lt hm0).2 hmlt
      omega
    have hbig : P ≤ b + f.fractionBits := by
      have hh : 2 ^ P < 2 ^ (f.fractionBits + 1 + b) := by
        rw [Nat.pow_add]
        exact Nat.lt_of_le_of_lt h1 (Nat.mul_lt_mul_of_pos_right hnlt (Nat.two_pow_pos _))
      have := (Nat.pow_lt_pow_iff_right (by decide)).1 hh
      omega
    have hln : f.fractionBits ≤ n.log2 := (Nat.le_log2 hn0).2 hnorm
    have hmore2 : f.fractionBits + 2 ≤ more + m.log2 := by omega
    have hmore3 : f.fractionBits + 2 ≤ more := by omega
    obtain ⟨T, hT⟩ : ∃ T, f.fractionBits + c + more + b = T + P := ⟨f.fractionBits + c + more + b - P, by omega⟩
    have hA : m * 2 ^ more * 2 ^ a ≤ n * 2 ^ T := by
      have s1 : m * 2 ^ more * 2 ^ a * 2 ^ P ≤ n * 2 ^ T * 2 ^ P := by
        calc m * 2 ^ more * 2 ^ a * 2 ^ P = (m * 2 ^ a) * (2 ^ more * 2 ^ P) := by
              rw [Nat.mul_right_comm m, Nat.mul_assoc (m * 2 ^ a)]
          _ ≤ 2 ^ (f.fractionBits + c) * (2 ^ more * (n * 2 ^ b)) := Nat.mul_le_mul h (Nat.mul_le_mul_left _ h1)
          _ = n * 2 ^ T * 2 ^ P := by
              rw [Nat.mul_assoc n, ← Nat.pow_add 2 T P, ← hT]
              simp only [Nat.pow_add]
              ac_rfl
      exact Nat.le_of_mul_le_mul_right s1 (Nat.two_pow_pos P)
    have hAn : n < m * 2 ^ more := by
      have g1 := @Nat.lt_log2_self n
      have g2 := Nat.log2_self_le hm0
      calc n < 2 ^ (n.log2 + 1) := g1
        _ ≤ 2 ^ (m.log2 + more) := Nat.pow_le_pow_right (by decide) (by omega)
        _ = 2 ^ m.log2 * 2 ^ more := Nat.pow_add ..
        _ ≤ m * 2 ^ more := Nat.mul_le_mul_right _ g2
    generalize m * 2 ^ more = A at *
    have hTa : a ≤ T := by
      rcases Nat.lt_or_ge T a with hlt | hge
      · exfalso
        obtain ⟨e, he⟩ : ∃ e, a = T + e := ⟨a - T, by omega⟩
        rw [he, Nat.pow_add, ← Nat.mul_assoc, Nat.mul_right_comm] at hA
        have hA2 : A * 2 ^ e ≤ n := Nat.le_of_mul_le_mul_right hA (Nat.two_pow_pos T)
        have : A ≤ A * 2 ^ e := Nat.le_mul_of_pos_right _ (Nat.two_pow_pos e)
        omega
      · exact hge
    obtain ⟨S, hS⟩ : ∃ S, T = S + a := ⟨T - a, by omega⟩
    have hA3 : A ≤ n * 2 ^ S := by
      rw [hS, Nat.pow_add, ← Nat.mul_assoc] at hA
      exact Nat.le_of_mul_le_mul_right hA (Nat.two_pow_pos a)
    have hnpos : 0 < n := Nat.pos_of_ne_zero hn0
    have hmag : 2 * (A / n) + (A % n != 0).toNat ≤ 2 ^ (S + 1) := by
      have hda := Nat.div_add_mod A n
      by_cases hr : A % n = 0
      · rw [hr] at hda
        have : n * (A / n) ≤ n * 2 ^ S := by omega
        have := Nat.le_of_mul_le_mul_left this hnpos
        rw [hr, Nat.pow_succ]; simp; omega
      · have hlt : A / n < 2 ^ S := by
          have h2 : n * (A / n) < n * 2 ^ S := by omega
          exact Nat.lt_of_mul_lt_mul_left h2
        have hb : (A % n != 0).toNat = 1 := by simp [hr]
        rw [hb, Nat.pow_succ]; omega
    obtain ⟨v, hv⟩ : ∃ v, b + more + 1 = v + P := ⟨b + more + 1 - P, by omega⟩
    have hfin : (2 * (A / n) + (A % n != 0).toNat) * 2 ^ a ≤ 2 ^ (f.fractionBits + c + v) := by
      have e : f.fractionBits + c + v = S + 1 + a := by omega
      rw [e, Nat.pow_add]
      exact Nat.mul_le_mul_right _ hmag
    obtain ⟨r, k1, k2, k3⟩ := near_le f (sgn f x ^^ sgn f y) _ v c hfin
    refine ⟨r, ?_, k2, k3⟩
    rw [← k1, near_shift]
    congr 2
    omega

/-- x / y no greater than the power of two that bounds it exactly. -/
theorem div_le2 {f : Format} {x y : Nat} (P c : Nat) (hP : f.leastPlace = -(P : Int)) (hx : FinW f x) (hy : FinW f y) (hPc : P ≤ f.fractionBits + c) (hy0 : rung f y ≠ 0)
    (h : mv f (rung f x) * 2 ^ P ≤ 2 ^ (f.fractionBits + c) * mv f (rung f y)) :
    ∃ r, f.div x y = some (f.word (sgn f x ^^ sgn f y) r) ∧ r ≤ (c + 1) * f.binade ∧ r ≤ f.infRung := by
  unfold Format.div
  rw [read_fin hx, read_fin hy]
  unfold Datum.quotient
  have hn0 : mg f (rung f y) ≠ 0 := mg_ne_zero hy0
  simp only [if_neg hn0, Option.map_some, Format.write]
  unfold mv at h
  have hmlt := mg_lt f (rung f x)
  generalize mg f (rung f x) = m at *
  generalize mg f (rung f y) = n at *
  generalize ex f (rung f x) = a at *
  generalize ex f (rung f y) = b at *
  generalize hmore : f.fractionBits + 2 + n.log2 - m.log2 = more
  rw [Nat.shiftLeft_eq]
  by_cases hm0 : m = 0
  · subst hm0
    refine ⟨0, ?_, Nat.zero_le _, Nat.zero_le _⟩
    simp [Format.nearest]
  · have hlm : m.log2 ≤ f.fractionBits := by
      have := (Nat.log2_lt hm0).2 hmlt
      omega
    obtain ⟨T, hT⟩ : ∃ T, f.fractionBits + c + more + b = T + P := ⟨f.fractionBits + c + more + b - P, by omega⟩
    have hA : m * 2 ^ more * 2 ^ a ≤ n * 2 ^ T := by
      have s1 : m * 2 ^ more * 2 ^ a * 2 ^ P ≤ n * 2 ^ T * 2 ^ P := by
        calc m * 2 ^ more * 2 ^ a * 2 ^ P = (m * 2 ^ a * 2 ^ P) * 2 ^ more := by ac_rfl
          _ ≤ (2 ^ (f.fractionBits + c) * (n * 2 ^ b)) * 2 ^ more := Nat.mul_le_mul_right _ h
          _ = n * 2 ^ T * 2 ^ P := by
              rw [Nat.mul_assoc n, ← Nat.pow_add 2 T P, ← hT]
              simp only [Nat.pow_add]
              ac_rfl
      exact Nat.le_of_mul_le_mul_right s1 (Nat.two_pow_pos P)
    have hAn : n < m * 2 ^ more := by
      have g1 := @Nat.lt_log2_self n
      have g2 := Nat.log2_self_le hm0
      calc n < 2 ^ (n.log2 + 1) := g1
        _ ≤ 2 ^ (m.log2 + more) := Nat.pow_le_pow_right (by decide) (by omega)
        _ = 2 ^ m.log2 * 2 ^ more := Nat.pow_add ..
        _ ≤ m * 2 ^ more := Nat.mul_le_mul_right _ g2
    generalize m * 2 ^ more = A at *
    have hTa : a ≤ T := by
      rcases Nat.lt_or_ge T a with hlt | hge
      · exfalso
        obtain ⟨e, he⟩ : ∃ e, a = T + e := ⟨a - T, by omega⟩
        rw [he, Nat.pow_add, ← Nat.mul_assoc, Nat.mul_right_comm] at hA
        have hA2 : A * 2 ^ e ≤ n := Nat.le_of_mul_le_mul_right hA (Nat.two_pow_pos T)
        have : A ≤ A * 2 ^ e := Nat.le_mul_of_pos_right _ (Nat.two_pow_pos e)
        omega
      · exact hge
    obtain ⟨S, hS⟩ : ∃ S, T = S + a := ⟨T - a, by omega⟩
    have hA3 : A ≤ n * 2 ^ S := by
      rw [hS, Nat.pow_add, ← Nat.mul_assoc] at hA
      exact Nat.le_of_mul_le_mul_right hA (Nat.two_pow_pos a)
    have hnpos : 0 < n := Nat.pos_of_ne_zero hn0
    have hmag : 2 * (A / n) + (A % n != 0).toNat ≤ 2 ^ (S + 1) := by
      have hda := Nat.div_add_mod A n
      by_cases hr : A % n = 0
      · rw [hr] at hda
        have : n * (A / n) ≤ n * 2 ^ S := by omega
        have := Nat.le_of_mul_le_mul_left this hnpos
        rw [hr, Nat.pow_succ]; simp; omega
      · have hlt : A / n < 2 ^ S := by
          have h2 : n * (A / n) < n * 2 ^ S := by omega
          exact Nat.lt_of_mul_lt_mul_left h2
        have hb : (A % n != 0).toNat = 1 := by simp [hr]
        rw [hb, Nat.pow_succ]; omega
    have hfin : (2 * (A / n) + (A % n != 0).toNat) * 2 ^ (a + P) ≤ 2 ^ (f.fractionBits + c + (b + more + 1)) := by
      have e : f.fractionBits + c + (b + more + 1) = S + 1 + (a + P) := by omega
      rw [e, Nat.pow_add 2 (S + 1) (a + P)]
      exact Nat.mul_le_mul_right _ hmag
    obtain ⟨r, k1, k2, k3⟩ := near_le f (sgn f x ^^ sgn f y) _ (b + more + 1) c hfin
    refine ⟨r, ?_, k2, k3⟩
    rw [← k1, near_shift]
    congr 2
    omega
end Go.Proofs.Ytlabbakmlanfgaa.Iee
