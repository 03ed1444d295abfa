/- Games: the best chance of two rows does not hang on the order in which the chances are tried. No condition. -/
import Derived.Below
namespace Go.Proofs.Ytlbmmecjiopbbaa.Pg
set_option linter.unusedVariables false
theorem cross {A B C a b c : Int} (ha : 0 < a) (hb : 0 < b) (hc : 0 < c) (h1 : B * a ≤ A * b) (h2 : C * b ≤ B * c) : C * a ≤ A * c ∧ (C * a = A * c → B * a = A * b ∧ C * b = B * c) := by
  have g1 : B * a * c ≤ A * b * c := Int.mul_le_mul_of_nonneg_right h1 (by omega)
  have g2 : C * b * a ≤ B * c * a := Int.mul_le_mul_of_nonneg_right h2 (by omega)
  have e1 : B * a * c = B * c * a := by rw [Int.mul_assoc, Int.mul_comm a c, ← Int.mul_assoc]
  have e2 : C * b * a = C * a * b := by rw [Int.mul_assoc, Int.mul_comm b a, ← Int.mul_assoc]
  have e3 : A * b * c = A * c * b := by rw [Int.mul_assoc, Int.mul_comm b c, ← Int.mul_assoc]
  have g3 : C * a * b ≤ A * c * b := by rw [← e2, ← e3]; omega
  refine ⟨Int.le_of_mul_le_mul_right g3 hb, fun he => ?_⟩
  have h4 : C * a * b = A * c * b := by rw [he]
  constructor
  · exact Int.eq_of_mul_eq_mul_right (by omega) (show B * a * c = A * b * c by omega)
  · exact Int.eq_of_mul_eq_mul_right (by omega) (show C * b * a = B * c * a by omega)
/-- x is better than y: a greater value, or as great a one at a lesser chance. -/
def Better (V : Int × Int → Int) (x y : Int × Int) : Prop := 0 < V x * y.2 - V y * x.2 ∨ (V x * y.2 - V y * x.2 = 0 ∧ x.1 * y.2 < y.1 * x.2)
instance (V : Int × Int → Int) (x y : Int × Int) : Decidable (Better V x y) := by unfold Better; infer_instance
theorem Better.trans {V : Int × Int → Int} {x y z : Int × Int} (hx : 0 < x.2) (hy : 0 < y.2) (hz : 0 < z.2) (h : Better V x y) (g : Better V y z) : Better V x z := by
  unfold Better at *
  have h1 : V y * x.2 ≤ V x * y.2 := by omega
  have h2 : V z * y.2 ≤ V y * z.2 := by omega
  obtain ⟨c1, c2⟩ := cross hx hy hz h1 h2
  rcases Int.lt_or_eq_of_le c1 with h3 | h3
  · left; omega
  · obtain ⟨e1, e2⟩ := c2 h3
    right
    refine ⟨by omega, ?_⟩
    have p1 : x.1 * y.2 < y.1 * x.2 := by omega
    have p2 : y.1 * z.2 < z.1 * y.2 := by omega
    have := cross (A := z.1) (B := y.1) (C := x.1) hz hy hx (by omega) (by omega)
    rcases Int.lt_or_eq_of_le this.1 with h5 | h5
    · exact h5
    · have := (this.2 h5).1; omega
theorem Better.irrefl {V : Int × Int → Int} {x : Int × Int} : ¬ Better V x x := by unfold Better; omega
def Good (x : Int × Int) : Prop := 0 ≤ x.1 ∧ 0 < x.2 ∧ Nat.gcd x.1.toNat x.2.toNat = 1
theorem good_eq {x y : Int × Int} (hx : Good x) (hy : Good y) (h : x.1 * y.2 = y.1 * x.2) : x = y := by
  obtain ⟨x1, x2⟩ := x
  obtain ⟨y1, y2⟩ := y
  obtain ⟨a1, a2, a3⟩ := hx
  obtain ⟨b1, b2, b3⟩ := hy
  simp only at *
  obtain ⟨p, rfl⟩ := Int.eq_ofNat_of_zero_le a1
  obtain ⟨q, rfl⟩ := Int.eq_ofNat_of_zero_le (Int.le_of_lt a2)
  obtain ⟨r, rfl⟩ := Int.eq_ofNat_of_zero_le b1
  obtain ⟨s, rfl⟩ := Int.eq_ofNat_of_zero_le (Int.le_of_lt b2)
  have h' : p * s = r * q := by exact_mod_cast h
  simp only [Int.toNat_natCast] at a3 b3
  have d1 : q ∣ s := by
    have : q ∣ p * s := ⟨r, by rw [h', Nat.mul_comm]⟩
    exact Nat.Coprime.dvd_of_dvd_mul_left (Nat.Coprime.symm a3) this
  have d2 : s ∣ q := by
    have : s ∣ r * q := ⟨p, by rw [← h', Nat.mul_comm]⟩
    exact Nat.Coprime.dvd_of_dvd_mul_left (Nat.Coprime.symm b3) this
  obtain rfl := Nat.dvd_antisymm d1 d2
  have : p = r := Nat.eq_of_mul_eq_mul_right (by omega) h'
  rw [this]
theorem better_total {V : Int × Int → Int} {x y : Int × Int} (hx : Good x) (hy : Good y) (h : ¬ Better V x y) (g : ¬ Better V y x) : x = y := by
  unfold Better at *
  apply good_eq hx hy
  omega
def pick (V : Int × Int → Int) (b x : Int × Int) : Int × Int := if Better V x b then x else b
theorem pick_best (V : Int × Int → Int) (L : List (Int × Int)) (b : Int × Int) (hb : Good b) (hL : ∀ x ∈ L, Good x) :
    (L.foldl (pick V) b = b ∨ L.foldl (pick V) b ∈ L) ∧ ¬ Better V b (L.foldl (pick V) b) ∧ ∀ x ∈ L, ¬ Better V x (L.foldl (pick V) b) := by
  induction L generalizing b with
  | nil => exact ⟨.inl rfl, Better.irrefl, by intro x hx; cases hx⟩
  | cons y L ih =>
    have hy : Good y := hL y List.mem_cons_self
    have hL' : ∀ x ∈ L, Good x := fun x hx => hL x (List.mem_cons_of_mem _ hx)
    rw [List.foldl_cons]
    by_cases hB : Better V y b
    · have e : pick V b y = y := if_pos hB
      rw [e]
      obtain ⟨h1, h2, h3⟩ := ih y hy hL'
      have hr : Good (L.foldl (pick V) y) := by rcases h1 with h | h
                                                · rw [h]; exact hy
                                                · exact hL' _ h
      refine ⟨.inr ?_, fun h => ?_, fun x hx => ?_⟩
      · rcases h1 with h | h
        · rw [h]; exact List.mem_cons_self
        · exact List.mem_cons_of_mem _ h
      · exact h2 (Better.trans hy.2.1 hb.2.1 hr.2.1 hB h)
      · rcases List.mem_cons.mp hx with rfl | h
        · exact h2
        · exact h3 x h
    · have e : pick V b y = b := if_neg hB
      rw [e]
      obtain ⟨h1, h2, h3⟩ := ih b hb hL'
      have hr : Good (L.foldl (pick V) b) := by rcases h1 with h | h
                                                · rw [h]; exact hb
                                                · exact hL' _ h
      refine ⟨?_, h2, fun x hx => ?_⟩
      · rcases h1 with h | h
        · exact .inl h
        · exact .inr (List.mem_cons_of_mem _ h)
      · rcases List.mem_cons.mp hx with rfl | h
        · intro hz
          by_cases hzb : Better V b x
          · exact h2 (Better.trans hb.2.1 hy.2.1 hr.2.1 hzb hz)
          · have := better_total hy hb hB hzb
            subst this; exact h2 hz
        · exact h3 x h
theorem pick_order (V : Int × Int → Int) (b : Int × Int) (L M : List (Int × Int)) (hb : Good b) (hL : ∀ x ∈ L, Good x) (h : ∀ x, x ∈ L ↔ x ∈ M) : L.foldl (pick V) b = M.foldl (pick V) b := by
  have hM : ∀ x ∈ M, Good x := fun x hx => hL x ((h x).mpr hx)
  obtain ⟨a1, a2, a3⟩ := pick_best V L b hb hL
  obtain ⟨b1, b2, b3⟩ := pick_best V M b hb hM
  have ga : Good (L.foldl (pick V) b) := by rcases a1 with e | e
                                            · rw [e]; exact hb
                                            · exact hL _ e
  have gb : Good (M.foldl (pick V) b) := by rcases b1 with e | e
                                            · rw [e]; exact hb
                                            · exact hM _ e
  have q1 : ¬ Better V (L.foldl (pick V) b) (M.foldl (pick V) b) := by
    rcases a1 with e | e
    · rw [e]; exact b2
    · exact b3 _ ((h _).mp e)
  have q2 : ¬ Better V (M.foldl (pick V) b) (L.foldl (pick V) b) := by
    rcases b1 with e | e
    · rw [e]; exact a2
    · exact a3 _ ((h _).mpr e)
  exact better_total ga gb q1 q2
/-- A fraction without a common factor, its denominator positive. -/
def red (n d : Int) : Int × Int := if d < 0 then ((-n).tdiv (Int.gcd n d), (-d).tdiv (Int.gcd n d)) else (n.tdiv (Int.gcd n d), d.tdiv (Int.gcd n d))
theorem red_neg (n d : Int) (h : d ≠ 0) : red (-n) (-d) = red n d := by
  unfold red
  have e : Int.gcd (-n) (-d) = Int.gcd n d := by simp [Int.gcd]
  rw [e]
  by_cases h1 : d < 0
  · rw [if_neg (by omega), if_pos h1]
  · rw [if_pos (by omega), if_neg h1, Int.neg_neg, Int.neg_neg]
theorem red_good (n d : Int) (h : d ≠ 0) (h1 : 0 ≤ (red n d).1) : Good (red n d) := by
  have key : ∀ n d : Int, 0 < d → 0 ≤ n.tdiv (Int.gcd n d) → Good (n.tdiv (Int.gcd n d), d.tdiv (Int.gcd n d)) := by
    intro n d hd hn
    have hg : 0 < Int.gcd n d := Nat.gcd_pos_of_pos_right _ (by omega)
    have hn0 : 0 ≤ n := by
      rcases Int.lt_or_le n 0 with h | h
      · exfalso
        have hdv : (Int.gcd n d : Int) ∣ n := Int.gcd_dvd_left ..
        obtain ⟨k, hk⟩ := hdv
        have e : n.tdiv (Int.gcd n d) = k := by
          have : n.tdiv (Int.gcd n d) = ((Int.gcd n d : Int) * k).tdiv (Int.gcd n d) := by rw [← hk]
          rw [this]; exact Int.mul_tdiv_cancel_left _ (by omega)
        rw [e] at hn
        have : 0 ≤ (Int.gcd n d : Int) * k := Int.mul_nonneg (by omega) hn
        omega
      · exact h
    obtain ⟨a, rfl⟩ := Int.eq_ofNat_of_zero_le hn0
    obtain ⟨b, rfl⟩ := Int.eq_ofNat_of_zero_le (Int.le_of_lt hd)
    have e : Int.gcd (a : Int) (b : Int) = Nat.gcd a b := rfl
    rw [e] at hg ⊢
    obtain ⟨g, hgg⟩ : ∃ g, Nat.gcd a b = g := ⟨_, rfl⟩
    have t1 : (a : Int).tdiv (Nat.gcd a b : Nat) = ((a / Nat.gcd a b : Nat) : Int) := rfl
    have t2 : (b : Int).tdiv (Nat.gcd a b : Nat) = ((b / Nat.gcd a b : Nat) : Int) := rfl
    rw [t1, t2]
    refine ⟨Int.natCast_nonneg _, ?_, ?_⟩
    · have : 0 < b / Nat.gcd a b := Nat.div_pos (Nat.le_of_dvd (by omega) (Nat.gcd_dvd_right _ _)) hg
      show (0 : Int) < ((b / Nat.gcd a b : Nat) : Int)
      omega
    · show Nat.gcd ((a / Nat.gcd a b : Nat) : Int).toNat ((b / Nat.gcd a b : Nat) : Int).toNat = 1
      rw [Int.toNat_natCast, Int.toNat_natCast]
      exact Nat.coprime_div_gcd_div_gcd hg
  unfold red at h1 ⊢
  by_cases hd : d < 0
  · rw [if_pos hd] at h1 ⊢
    have e : Int.gcd (-n) (-d) = Int.gcd n d := by simp [Int.gcd]
    have := key (-n) (-d) (by omega)
    rw [e] at this
    exact this h1
  · rw [if_neg hd] at h1 ⊢
    exact key n d (by omega) h1
def cand (n d : Int) : List (Int × Int) := if d ≠ 0 ∧ 0 ≤ (red n d).1 ∧ (red n d).1 ≤ (red n d).2 then [red n d] else []
theorem cand_good {n d : Int} {x : Int × Int} (h : x ∈ cand n d) : Good x := by
  unfold cand at h
  split at h
  · rename_i g
    have : x = red n d := by simpa using h
    rw [this]; exact red_good n d g.1 g.2.1
  · cases h
theorem cand_neg (n d : Int) : cand (-n) (-d) = cand n d := by
  unfold cand
  by_cases h : d = 0
  · subst h; simp
  · rw [red_neg n d h]
    by_cases h2 : 0 ≤ (red n d).1 ∧ (red n d).1 ≤ (red n d).2
    · rw [if_pos ⟨by omega, h2⟩, if_pos ⟨h, h2⟩]
    · rw [if_neg (fun g => h2 g.2), if_neg (fun g => h2 g.2)]
/-- The program's chances: column k against each one before it. -/
def imIn (a b : Nat → Int) (k : Nat) : Nat → List (Int × Int)
  | 0 => []
  | l + 1 => imIn a b k l ++ cand (b l - b k) (a k - b k - a l + b l)
def imL (a b : Nat → Int) : Nat → List (Int × Int)
  | 0 => []
  | k + 1 => imL a b k ++ imIn a b k k
/-- The reference's: column i against each one behind it. -/
def spIn (a b : Nat → Int) (i : Nat) : Nat → List (Int × Int)
  | 0 => []
  | m + 1 => spIn a b i m ++ cand (b (i + 1 + m) - b i) (a i - b i - a (i + 1 + m) + b (i + 1 + m))
def spL (a b : Nat → Int) (c : Nat) : Nat → List (Int × Int)
  | 0 => []
  | i + 1 => spL a b c i ++ spIn a b i (c - 1 - i)
theorem mem_imIn (a b : Nat → Int) (k n : Nat) (x : Int × Int) : x ∈ imIn a b k n ↔ ∃ l, l < n ∧ x ∈ cand (b l - b k) (a k - b k - a l + b l) := by
  induction n with
  | zero => simp [imIn]
  | succ n ih =>
    rw [imIn, List.mem_append, ih]
    constructor
    · rintro (⟨l, hl, h⟩ | h)
      · exact ⟨l, by omega, h⟩
      · exact ⟨n, by omega, h⟩
    · rintro ⟨l, hl, h⟩
      rcases Nat.lt_or_eq_of_le (Nat.le_of_lt_succ hl) with g | rfl
      · exact .inl ⟨l, g, h⟩
      · exact .inr h
theorem mem_imL (a b : Nat → Int) (n : Nat) (x : Int × Int) : x ∈ imL a b n ↔ ∃ k l, k < n ∧ l < k ∧ x ∈ cand (b l - b k) (a k - b k - a l + b l) := by
  induction n with
  | zero => simp [imL]
  | succ n ih =>
    rw [imL, List.mem_append, ih, mem_imIn]
    constructor
    · rintro (⟨k, l, hk, hl, h⟩ | ⟨l, hl, h⟩)
      · exact ⟨k, l, by omega, hl, h⟩
      · exact ⟨n, l, by omega, hl, h⟩
    · rintro ⟨k, l, hk, hl, h⟩
      rcases Nat.lt_or_eq_of_le (Nat.le_of_lt_succ hk) with g | rfl
      · exact .inl ⟨k, l, g, hl, h⟩
      · exact .inr ⟨l, hl, h⟩
theorem mem_spIn (a b : Nat → Int) (i n : Nat) (x : Int × Int) : x ∈ spIn a b i n ↔ ∃ m, m < n ∧ x ∈ cand (b (i + 1 + m) - b i) (a i - b i - a (i + 1 + m) + b (i + 1 + m)) := by
  induction n with
  | zero => simp [spIn]
  | succ n ih =>
    rw [spIn, List.mem_append, ih]
    constructor
    · rintro (⟨l, hl, h⟩ | h)
      · exact ⟨l, by omega, h⟩
      · exact ⟨n, by omega, h⟩
    · rintro ⟨l, hl, h⟩
      rcases Nat.lt_or_eq_of_le (Nat.le_of_lt_succ hl) with g | rfl
      · exact .inl ⟨l, g, h⟩
      · exact .inr h
theorem mem_spL (a b : Nat → Int) (c n : Nat) (x : Int × Int) : x ∈ spL a b c n ↔ ∃ i m, i < n ∧ m < c - 1 - i ∧ x ∈ cand (b (i + 1 + m) - b i) (a i - b i - a (i + 1 + m) + b (i + 1 + m)) := by
  induction n with
  | zero => simp [spL]
  | succ n ih =>
    rw [spL, List.mem_append, ih, mem_spIn]
    constructor
    · rintro (⟨k, l, hk, hl, h⟩ | ⟨l, hl, h⟩)
      · exact ⟨k, l, by omega, hl, h⟩
      · exact ⟨n, l, by omega, hl, h⟩
    · rintro ⟨k, l, hk, hl, h⟩
      rcases Nat.lt_or_eq_of_le (Nat.le_of_lt_succ hk) with g | rfl
      · exact .inl ⟨k, l, g, hl, h⟩
      · exact .inr ⟨l, hl, h⟩
theorem same_cands (a b : Nat → Int) (c : Nat) (x : Int × Int) : x ∈ imL a b c ↔ x ∈ spL a b c c := by
  rw [mem_imL, mem_spL]
  have flip : ∀ l k, cand (b l - b k) (a k - b k - a l + b l) = cand (b k - b l) (a l - b l - a k + b k) := by
    intro l k
    rw [← cand_neg]
    congr 1 <;> omega
  constructor
  · rintro ⟨k, l, hk, hl, h⟩
    refine ⟨l, k - 1 - l, by omega, by omega, ?_⟩
    have e : l + 1 + (k - 1 - l) = k := by omega
    rw [e, ← flip]; exact h
  · rintro ⟨i, m, hi, hm, h⟩
    refine ⟨i + 1 + m, i, by omega, by omega, ?_⟩
    rw [flip]; exact h
theorem good01 : Good (0, 1) := ⟨by decide, by decide, by decide⟩
theorem good11 : Good (1, 1) := ⟨by decide, by decide, by decide⟩
/-- The two orders give the same chance. -/
theorem same_best (V : Int × Int → Int) (a b : Nat → Int) (c : Nat) : ((1, 1) :: imL a b c).foldl (pick V) (0, 1) = ((1, 1) :: spL a b c c).foldl (pick V) (0, 1) := by
  refine pick_order V (0, 1) _ _ good01 ?_ ?_
  · intro x hx
    rcases List.mem_cons.mp hx with rfl | h
    · exact good11
    · obtain ⟨k, l, _, _, h⟩ := (mem_imL a b c x).mp h
      exact cand_good h
  · intro x
    rw [List.mem_cons, List.mem_cons, same_cands]
end Go.Proofs.Ytlbmmecjiopbbaa.Pg
