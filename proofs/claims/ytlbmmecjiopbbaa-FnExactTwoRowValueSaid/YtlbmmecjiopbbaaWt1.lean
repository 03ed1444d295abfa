/- Games: fractions without a common factor. No condition. -/
import Derived.Test.YtlbmmecjiopbbaaWi3
import Derived.Test.YtlbmmecjiopbbaaPg2
namespace Go.Proofs.Ytlbmmecjiopbbaa
open Go.RowKit Flo Sl Pg
set_option linter.unusedVariables false
namespace TryWalk
set_option maxHeartbeats 1000000 in
theorem common (x0 y0 : Nat) (w : World) (hx : x0 ≤ 1000000000) (hy : y0 ≤ 1000000000) : Calls Try.prog 135 #[.int .i64 x0, .int .i64 y0] w fun e w' => e = .returned (.int .i64 ((Nat.gcd x0 y0 : Nat) : Int)) ∧ ∃ n, w' = w.drewN n := by
  obtain ⟨g, hg⟩ : ∃ g, Nat.gcd x0 y0 = g := ⟨_, rfl⟩
  rw [hg]
  have HG := hid hg
  clear hg
  go_enter Try.func135, Try.ntmps135
  go_wp2_with fail
  go_loopw [0, 1] (fun a b wr => ∃ x y n : Nat, a = .int .i64 x ∧ b = .int .i64 y ∧ x ≤ 1000000000 ∧ y ≤ 1000000000 ∧ Nat.gcd x y = g ∧ wr = w.drewN n) (fun _ b _ => (intOf b).toNat)
  case atStart => exact ⟨x0, y0, 0, rfl, rfl, hx, hy, HG.out, rfl⟩
  case round =>
    obtain ⟨x, y, n, rfl, rfl, hx2, hy2, hgg, rfl⟩ := hrel
    have HGG := hid hgg
    clear hgg
    by_cases hy0 : y = 0
    · have hb : ((y : Int) != 0) = false := by simp; omega
      have HY := hid hy0
      clear hy0
      go_wp2_with fail
      go_ret
      exact ⟨by have := HGG.out; rw [HY.out, Nat.gcd_zero_right] at this; rw [this]; rfl, _, rfl⟩
    · have hb : ((y : Int) != 0) = true := by simp; omega
      have hb2 : ((y : Int) == 0) = false := by simp; omega
      have hy1 : 1 ≤ y := by omega
      obtain ⟨m, hm⟩ : ∃ m, x % y = m := ⟨_, rfl⟩
      have hlt : m < y := by rw [← hm]; exact Nat.mod_lt _ (by omega)
      have hm1 : (x : Int) % (y : Int) = (m : Int) := by rw [← hm]; push_cast; rfl
      have hm2 : (x : Int).tmod (y : Int) = (m : Int) := by rw [← hm]; rfl
      have HM := hid hm
      clear hm hy0
      go_wp2_with fail
      go_quiet (fail)
      go_wp2_with fail
      go_roundw
      case rel => exact ⟨y, m, _, rfl, rfl, hy2, by omega, by rw [← HM.out, Nat.gcd_comm, ← Nat.gcd_rec, Nat.gcd_comm]; exact HGG.out, by first | rfl | exact World.drewN_drewN ..⟩
      case measure => simp [intOf]; omega
theorem absolute (x : Int) (w : World) (h1 : -1000000000 ≤ x) (h2 : x ≤ 1000000000) : Calls Try.prog 136 #[.int .i64 x] w fun e w' => e = .returned (.int .i64 ((x.natAbs : Nat) : Int)) ∧ w' = w := by
  obtain ⟨n, hn⟩ : ∃ n, x.natAbs = n := ⟨_, rfl⟩
  by_cases h : 0 ≤ x
  · have hx : x = (n : Int) := by omega
    subst hx
    rw [hn]
    go_enter Try.func136, Try.ntmps136
    go_wp2_with fail
    go_ret
    exact ⟨by first | rfl | simp, rfl⟩
  · have hx : x = -(n : Int) := by omega
    subst hx
    rw [hn]
    have hn0 : 1 ≤ n := by omega
    go_enter Try.func136, Try.ntmps136
    go_wp2_with fail
    go_ret
    exact ⟨by first | rfl | simp, rfl⟩
theorem tdiv_le (a : Int) (g : Nat) (h : 1 ≤ g) (h1 : -1000000000 ≤ a) (h2 : a ≤ 1000000000) : -1000000000 ≤ a.tdiv g ∧ a.tdiv g ≤ 1000000000 := by
  have e : (a.tdiv (g : Int)).natAbs = a.natAbs / g := Int.natAbs_tdiv ..
  have : a.natAbs / g ≤ a.natAbs := Nat.div_le_self _ _
  omega
set_option maxHeartbeats 2000000 in
theorem reducedNo (a : Int) (w : World) : Calls Try.prog 116 #[.int .i64 a, .int .i64 0] w fun e w' => e = .returned (.tuple #[.int .i64 0, .int .i64 0, .bool false]) ∧ w' = w := by
  go_enter Try.func116, Try.ntmps116
  go_wp2_with fail
  go_ret3
  exact ⟨rfl, rfl⟩
set_option maxHeartbeats 2000000 in
theorem reduced (a b : Int) (w : World) (h1 : -1000000000 ≤ a) (h2 : a ≤ 1000000000) (h3 : -1000000000 ≤ b) (h4 : b ≤ 1000000000) (hb : b ≠ 0) : Calls Try.prog 116 #[.int .i64 a, .int .i64 b] w fun e w' => e = .returned (.tuple #[.int .i64 (red a b).1, .int .i64 (red a b).2, .bool true]) ∧ ∃ n, w' = w.drewN n := by
  have hb0 : (b == 0) = false := by simpa using hb
  obtain ⟨g, hg⟩ : ∃ g, Nat.gcd a.natAbs b.natAbs = g := ⟨_, rfl⟩
  have hg0 : 1 ≤ g := by rw [← hg]; exact Nat.gcd_pos_of_pos_right _ (by omega)
  have hgb : g ≤ 1000000000 := by
    have : g ≤ b.natAbs := by rw [← hg]; exact Nat.gcd_le_right _ (by omega)
    omega
  have hG : Int.gcd a b = g := hg
  have HC := hid (fun w' => common a.natAbs b.natAbs w' (by omega) (by omega))
  have HA := hid (fun w' => absolute a w' h1 h2)
  have HB := hid (fun w' => absolute b w' h3 h4)
  rw [hg] at HC
  obtain ⟨na, hna⟩ : ∃ n, a.natAbs = n := ⟨_, rfl⟩
  obtain ⟨nb, hnb⟩ : ∃ n, b.natAbs = n := ⟨_, rfl⟩
  rw [hna, hnb] at HC
  rw [hna] at HA
  rw [hnb] at HB
  have tl1 := tdiv_le a g hg0 h1 h2
  have tl2 := tdiv_le b g hg0 h3 h4
  obtain ⟨r1, hr1⟩ : ∃ r, a.tdiv (g : Int) = r := ⟨_, rfl⟩
  obtain ⟨r2, hr2⟩ : ∃ r, b.tdiv (g : Int) = r := ⟨_, rfl⟩
  rw [hr1] at tl1
  rw [hr2] at tl2
  obtain ⟨u1, u2⟩ := tl1
  obtain ⟨u3, u4⟩ := tl2
  have gz : ((g : Int) == 0) = false := by simp; omega
  have gz2 : (-(g : Int) == 0) = false := by simp; omega
  have gn : ¬ (g : Int) = 0 := by omega
  by_cases hneg : b < 0
  · have e1 : red a b = (-r1, -r2) := by
      rw [red, if_pos hneg, hG, Int.neg_tdiv, Int.neg_tdiv, hr1, hr2]
    have m1 : a.tdiv (-(g : Int)) = -r1 := by rw [Int.tdiv_neg, hr1]
    have m2 : b.tdiv (-(g : Int)) = -r2 := by rw [Int.tdiv_neg, hr2]
    rw [e1]
    have HN := hid hneg
    have d1 : decide (b < 0) = true := by simpa using hneg
    clear hneg hr1 hr2 hg hG e1 hna hnb hb
    go_enter Try.func116, Try.ntmps116
    go_wp2_with (first
      | (go_at_call 136; (with_reducible refine Calls.mono (HA.out _) ?_); rintro e w' ⟨rfl, rfl⟩)
      | (go_at_call 136; (with_reducible refine Calls.mono (HB.out _) ?_); rintro e w' ⟨rfl, rfl⟩)
      | (go_at_call 135; (with_reducible refine Calls.mono (HC.out _) ?_); rintro e w' ⟨rfl, n, rfl⟩))
    go_quiet (fail)
    go_wp2_with fail
    go_ret3
    exact ⟨rfl, _, by first | rfl | exact World.drewN_drewN ..⟩
  · have e1 : red a b = (r1, r2) := by rw [red, if_neg hneg, hG, hr1, hr2]
    rw [e1]
    have d1 : decide (b < 0) = false := by simpa using hneg
    clear hneg hg hG e1 hna hnb hb
    go_enter Try.func116, Try.ntmps116
    go_wp2_with (first
      | (go_at_call 136; (with_reducible refine Calls.mono (HA.out _) ?_); rintro e w' ⟨rfl, rfl⟩)
      | (go_at_call 136; (with_reducible refine Calls.mono (HB.out _) ?_); rintro e w' ⟨rfl, rfl⟩)
      | (go_at_call 135; (with_reducible refine Calls.mono (HC.out _) ?_); rintro e w' ⟨rfl, n, rfl⟩))
    go_quiet (fail)
    go_wp2_with fail
    go_ret3
    exact ⟨rfl, _, by first | rfl | exact World.drewN_drewN ..⟩
theorem gcd_tmod (x y : Int) : Int.gcd y (x.tmod y) = Int.gcd x y := by
  unfold Int.gcd
  rw [Int.natAbs_tmod, Nat.gcd_comm, ← Nat.gcd_rec, Nat.gcd_comm]
set_option maxHeartbeats 1000000 in
theorem spGcd (x0 y0 : Int) (w : World) (h1 : -1000000000 ≤ x0) (h2 : x0 ≤ 1000000000) (h3 : -1000000000 ≤ y0) (h4 : y0 ≤ 1000000000) : Calls Try.prog 134 #[.int .i64 x0, .int .i64 y0] w fun e w' => e = .returned (.int .i64 ((Int.gcd x0 y0 : Nat) : Int)) ∧ w' = w := by
  obtain ⟨g, hg⟩ : ∃ g, Int.gcd x0 y0 = g := ⟨_, rfl⟩
  rw [hg]
  have HG := hid hg
  clear hg
  go_enter Try.func134, Try.ntmps134
  go_wp2_with fail
  go_loopw [0, 1, 5] (fun a b r wr => ∃ x y : Int, a = .int .i64 x ∧ b = .int .i64 y ∧ -1000000000 ≤ x ∧ x ≤ 1000000000 ∧ -1000000000 ≤ y ∧ y ≤ 1000000000 ∧ Int.gcd x y = g ∧ wr = w) (fun _ b _ _ => (intOf b).natAbs)
  case atStart => exact ⟨x0, y0, rfl, rfl, h1, h2, h3, h4, HG.out, rfl⟩
  case round =>
    obtain ⟨x, y, rfl, rfl, q1, q2, q3, q4, hgg, rfl⟩ := hrel
    have HGG := hid hgg
    clear hgg
    by_cases hy0 : y = 0
    · have hb : (y != 0) = false := by simpa using hy0
      have hm : Hid (max x (-x) = (g : Int)) := hid (by
        have := HGG.out
        rw [hy0, Int.gcd_zero_right] at this
        omega)
      clear hy0
      obtain ⟨nx, hnx⟩ : ∃ nx, -x = nx := ⟨_, rfl⟩
      rw [hnx] at hm
      have n1 : -1000000000 ≤ nx := by omega
      have n2 : nx ≤ 1000000000 := by omega
      go_wp2_with (go_at_call 91; refine (l00Max x nx _).mono ?_; rintro e w' ⟨rfl, rfl⟩)
      go_ret
      exact ⟨by rw [hm.out]; rfl, by first | rfl | trivial⟩
    · have hb : (y != 0) = true := by simpa using hy0
      have hb2 : (y == 0) = false := by simpa using hy0
      obtain ⟨m, hm⟩ : ∃ m, x.tmod y = m := ⟨_, rfl⟩
      have ha : m.natAbs = x.natAbs % y.natAbs := by rw [← hm]; exact Int.natAbs_tmod ..
      have hlt : m.natAbs < y.natAbs := by rw [ha]; exact Nat.mod_lt _ (by omega)
      have HM : Hid (Int.gcd y m = g) := hid (by rw [← hm, gcd_tmod]; exact HGG.out)
      have m1 : -1000000000 ≤ m := by omega
      have m2 : m ≤ 1000000000 := by omega
      have HLT := hid hlt
      clear ha hlt
      go_wp2_with fail
      all_goals first
        | exact absurd (by assumption) hy0
        | (exfalso; simp_all; done)
        | exact ⟨⟨y, m, rfl, rfl, q3, q4, m1, m2, HM.out, trivial⟩, by have := HLT.out; simpa [intOf] using this⟩
        | exact ⟨⟨y, m, rfl, rfl, q3, q4, m1, m2, HM.out, rfl⟩, by have := HLT.out; simpa [intOf] using this⟩
        | trace_state
set_option maxHeartbeats 2000000 in
theorem least2 (n d : Int) (w : World) (h1 : -1000000000 ≤ n) (h2 : n ≤ 1000000000) (h3 : -1000000000 ≤ d) (h4 : d ≤ 1000000000) (hd : d ≠ 0) : Calls Try.prog 113 #[.int .i64 n, .int .i64 d] w fun e w' => e = .returned (.tuple #[.int .i64 (red n d).1, .int .i64 (red n d).2]) ∧ ∃ m, w' = w.drewN m := by
  obtain ⟨g, hg⟩ : ∃ g, Int.gcd n d = g := ⟨_, rfl⟩
  have hg0 : 1 ≤ g := by rw [← hg]; exact Nat.gcd_pos_of_pos_right _ (by omega)
  have hgb : g ≤ 1000000000 := by
    have : g ≤ d.natAbs := by rw [← hg]; exact Nat.gcd_le_right _ (by omega)
    omega
  have gz : ((g : Int) == 0) = false := by simp; omega
  by_cases hneg : d < 0
  · have e1 : red n d = ((-n).tdiv g, (-d).tdiv g) := by rw [red, if_pos hneg, hg]
    rw [e1]
    obtain ⟨n', hn'⟩ : ∃ n', -n = n' := ⟨_, rfl⟩
    obtain ⟨d', hd'⟩ : ∃ d', -d = d' := ⟨_, rfl⟩
    have hgn : Int.gcd n' d' = g := by rw [← hn', ← hd', ← hg]; simp [Int.gcd]
    have n1 : -1000000000 ≤ n' := by omega
    have n2 : n' ≤ 1000000000 := by omega
    have n3 : -1000000000 ≤ d' := by omega
    have n4 : d' ≤ 1000000000 := by omega
    have HC := hid (fun w' => spGcd n' d' w' n1 n2 n3 n4)
    rw [hgn] at HC
    have tl1 := tdiv_le n' g hg0 n1 n2
    have tl2 := tdiv_le d' g hg0 n3 n4
    rw [hn', hd']
    obtain ⟨r1, hr1⟩ : ∃ r, n'.tdiv (g : Int) = r := ⟨_, rfl⟩
    obtain ⟨r2, hr2⟩ : ∃ r, d'.tdiv (g : Int) = r := ⟨_, rfl⟩
    rw [hr1] at tl1
    rw [hr2] at tl2
    rw [hr1, hr2]
    obtain ⟨u1, u2⟩ := tl1
    obtain ⟨u3, u4⟩ := tl2
    have d1 : decide (d < 0) = true := by simpa using hneg
    clear hneg hg e1 hgn hd
    go_enter Try.func113, Try.ntmps113
    go_wp2_with (go_at_call 134; (with_reducible refine Calls.mono (HC.out _) ?_); rintro e w' ⟨rfl, rfl⟩)
    go_quiet (fail)
    go_wp2_with fail
    go_ret2
    exact ⟨rfl, _, by first | rfl | exact World.drewN_drewN ..⟩
  · have e1 : red n d = (n.tdiv g, d.tdiv g) := by rw [red, if_neg hneg, hg]
    rw [e1]
    have HC := hid (fun w' => spGcd n d w' h1 h2 h3 h4)
    rw [hg] at HC
    have tl1 := tdiv_le n g hg0 h1 h2
    have tl2 := tdiv_le d g hg0 h3 h4
    obtain ⟨r1, hr1⟩ : ∃ r, n.tdiv (g : Int) = r := ⟨_, rfl⟩
    obtain ⟨r2, hr2⟩ : ∃ r, d.tdiv (g : Int) = r := ⟨_, rfl⟩
    rw [hr1] at tl1
    rw [hr2] at tl2
    rw [hr1, hr2]
    obtain ⟨u1, u2⟩ := tl1
    obtain ⟨u3, u4⟩ := tl2
    have d1 : decide (d < 0) = false := by simpa using hneg
    clear hneg hg e1 hd
    go_enter Try.func113, Try.ntmps113
    go_wp2_with (go_at_call 134; (with_reducible refine Calls.mono (HC.out _) ?_); rintro e w' ⟨rfl, rfl⟩)
    go_quiet (fail)
    go_wp2_with fail
    go_ret2
    exact ⟨rfl, _, by first | rfl | exact World.drewN_drewN ..⟩
end TryWalk
end Go.Proofs.Ytlbmmecjiopbbaa
