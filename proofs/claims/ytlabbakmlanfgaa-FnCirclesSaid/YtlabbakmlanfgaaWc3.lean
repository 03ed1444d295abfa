/- The law on phasors: tenths of decibels, said for the walk. No condition. -/
import Derived.Test.YtlabbakmlanfgaaKt3a
import Derived.Test.YtlabbakmlanfgaaKt3b
import Derived.Test.YtlabbakmlanfgaaKt3c
import Derived.Test.YtlabbakmlanfgaaKt3d
import Derived.Test.YtlabbakmlanfgaaKt3e
import Derived.Test.YtlabbakmlanfgaaKt4
namespace Go.Proofs.Ytlabbakmlanfgaa
open Go.RowKit Flo Iee Kf
set_option linter.unusedVariables false
namespace TryWalk
theorem chk_all {k : Nat} (hk : k < 20000) : chk1 k = true := by
  have hc : k / 1000 = 0 ∨ k / 1000 = 1 ∨ k / 1000 = 2 ∨ k / 1000 = 3 ∨ k / 1000 = 4 ∨ k / 1000 = 5 ∨ k / 1000 = 6 ∨ k / 1000 = 7 ∨ k / 1000 = 8 ∨ k / 1000 = 9 ∨ k / 1000 = 10 ∨ k / 1000 = 11 ∨ k / 1000 = 12 ∨ k / 1000 = 13 ∨ k / 1000 = 14 ∨ k / 1000 = 15 ∨ k / 1000 = 16 ∨ k / 1000 = 17 ∨ k / 1000 = 18 ∨ k / 1000 = 19 := by omega
  rcases hc with h | h | h | h | h | h | h | h | h | h | h | h | h | h | h | h | h | h | h | h
  · exact chunk_at chunk0 h
  · exact chunk_at chunk1 h
  · exact chunk_at chunk2 h
  · exact chunk_at chunk3 h
  · exact chunk_at chunk4 h
  · exact chunk_at chunk5 h
  · exact chunk_at chunk6 h
  · exact chunk_at chunk7 h
  · exact chunk_at chunk8 h
  · exact chunk_at chunk9 h
  · exact chunk_at chunk10 h
  · exact chunk_at chunk11 h
  · exact chunk_at chunk12 h
  · exact chunk_at chunk13 h
  · exact chunk_at chunk14 h
  · exact chunk_at chunk15 h
  · exact chunk_at chunk16 h
  · exact chunk_at chunk17 h
  · exact chunk_at chunk18 h
  · exact chunk_at chunk19 h
theorem od_ok {m : Nat} (h0 : 1 ≤ m) (h : m ≤ 200) : (2 * OD m + 1) * 2 ^ TW m = m ∧ TW m ≤ 7 := by
  have g := List.all_eq_true.1 okOD_all (m - 1) (List.mem_range.2 (by omega))
  unfold okOD at g
  rw [show Nat.succ (m - 1) = m by omega] at g
  obtain ⟨g1, g2⟩ := kand_t g
  exact ⟨Nat.eq_of_beq_eq_true g1, Nat.le_of_ble_eq_true g2⟩
theorem odd_prod (a b s t : Nat) : (2 * a + 1) * 2 ^ s * ((2 * b + 1) * 2 ^ t) = (2 * (2 * (a * b) + (a + b)) + 1) * 2 ^ (s + t) := by
  have e : (2 * a + 1) * (2 * b + 1) = 2 * (2 * (a * b) + (a + b)) + 1 := by
    rw [Nat.add_mul, Nat.mul_add, Nat.one_mul, Nat.mul_one]
    have : 2 * a * (2 * b) = 2 * (2 * (a * b)) := by rw [Nat.mul_mul_mul_comm, Nat.mul_assoc]
    omega
  rw [Nat.mul_mul_mul_comm, ← Nat.pow_add, e]
structure PairOk (m n : Nat) : Prop where
  up : T3 (8 * m) + T3 (8 * n) ≤ T3 (m * n) + 201
  dn : T3 (m * n) + 199 ≤ T3 (8 * m) + T3 (8 * n)
  msk : mk3 (pk (OD m) (OD n)) = true
theorem pair_ok {m n : Nat} (h0 : 1 ≤ m) (h : m ≤ 200) (g0 : 1 ≤ n) (g : n ≤ 200) : PairOk m n := by
  have h1 := List.all_eq_true.1 okPrs_all (m - 1) (List.mem_range.2 (by omega))
  unfold okPrs at h1
  have h2 := List.all_eq_true.1 h1 (n - 1) (List.mem_range.2 (by omega))
  rw [show Nat.succ (m - 1) = m by omega, show Nat.succ (n - 1) = n by omega] at h2
  unfold okPr at h2
  obtain ⟨h3, h4⟩ := kand_t h2
  unfold okPr1 at h4
  obtain ⟨h5, h6⟩ := kand_t h4
  exact ⟨Nat.le_of_ble_eq_true h5, Nat.le_of_ble_eq_true h6, h3⟩
theorem t3_ok {m n : Nat} (h0 : 1 ≤ m) (h : m ≤ 200) (g0 : 1 ≤ n) (g : n ≤ 200) : TI (tenV (kD (m * n))) = (T3 (m * n) : Int) - 200 := by
  obtain ⟨e1, s1⟩ := od_ok h0 h
  obtain ⟨e2, s2⟩ := od_ok g0 g
  have hmk := (pair_ok h0 h g0 g).msk
  have hmn : m * n ≤ 40000 := Nat.mul_le_mul h g
  have he : m * n = Nat.succ (Nat.mul 2 (pk (OD m) (OD n))) * 2 ^ (TW m + TW n) := by
    have := odd_prod (OD m) (OD n) (TW m) (TW n)
    rw [e1, e2] at this
    exact this
  have hk : pk (OD m) (OD n) < 20000 := by
    have hp := Nat.two_pow_pos (TW m + TW n)
    have h1 : Nat.succ (Nat.mul 2 (pk (OD m) (OD n))) * 1 ≤ Nat.succ (Nat.mul 2 (pk (OD m) (OD n))) * 2 ^ (TW m + TW n) := Nat.mul_le_mul_left _ hp
    rw [← he] at h1
    have h2 : 2 * pk (OD m) (OD n) + 1 ≤ 40000 := by
      have : Nat.succ (Nat.mul 2 (pk (OD m) (OD n))) * 1 = 2 * pk (OD m) (OD n) + 1 := Nat.mul_one _
      omega
    omega
  have hfin := chk1_ok (chk_all hk) hmk (t := TW m + TW n) (by omega) (by rw [← he]; exact hmn)
  rwa [← he] at hfin
theorem ten_prod {m n : Nat} (h0 : 1 ≤ m) (h : m ≤ 200) (g0 : 1 ≤ n) (g : n ≤ 200) : Pos (W32 143 (m * n)) ∧ Fits .f32 (W32 143 (m * n)) ∧ tenI (W32 143 (m * n)) = (T3 (m * n) : Int) - 200 := by
  obtain ⟨a1, a2, a3⟩ := ten_val (n := m * n) (Nat.mul_pos h0 g0) (Nat.lt_of_le_of_lt (Nat.mul_le_mul h g) (by decide))
  exact ⟨a1, a2, by rw [a3, t3_ok h0 h g0 g]⟩
theorem ten_one {m : Nat} (h0 : 1 ≤ m) (h : m ≤ 200) : Pos (W32 146 m) ∧ Fits .f32 (W32 146 m) ∧ tenI (W32 146 m) = (T3 (8 * m) : Int) - 200 := by
  rw [w32_8]
  exact ten_prod (by decide) (by decide) h0 h
def okW (m : Nat) : Bool := Nat.beq (kquo32 (floatOfInt .f32 (1 + (m : Int))) 1090519040) (W32 146 (Nat.succ m))
theorem okW_all : (List.range 200).all okW = true := by decide +kernel
theorem xW_ok {m : Nat} (h : m < 200) : fop .quo .f32 (floatOfInt .f32 (1 + (m : Int))) 1090519040 = W32 146 (m + 1) := by
  have g := List.all_eq_true.1 okW_all m (List.mem_range.2 h)
  rw [quo32]
  exact Nat.eq_of_beq_eq_true g
theorem w_one : W32 143 64 = 1065353216 ∧ T3 64 = 200 := by decide +kernel
theorem ten_unit : Pos 1065353216 ∧ tenI 1065353216 = 0 := by
  have h := ten_prod (m := 8) (n := 8) (by decide) (by decide) (by decide) (by decide)
  rw [show 8 * 8 = 64 from rfl, w_one.1, w_one.2] at h
  exact ⟨h.1, h.2.2⟩
end TryWalk
end Go.Proofs.Ytlabbakmlanfgaa
