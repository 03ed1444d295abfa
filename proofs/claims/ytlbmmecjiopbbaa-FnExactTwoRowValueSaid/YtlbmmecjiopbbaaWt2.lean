/- Games: the least gain by a chance. No condition. -/
import Derived.Test.YtlbmmecjiopbbaaWt1
import Derived.Test.YtlbmmecjiopbbaaPg4
namespace Go.Proofs.Ytlbmmecjiopbbaa
open Go.RowKit Flo Sl Pg
set_option linter.unusedVariables false
namespace TryWalk
/-- What is known of a table of two rows and of a chance. -/
structure Two (xs : List Int) (cn la : Nat) : Prop where
  c1 : 1 ≤ cn
  c2 : cn ≤ 6
  len : la = 2 * cn
  bd : ∀ i, i < la → -1000 ≤ xs.getD i 0 ∧ xs.getD i 0 ≤ 1000
theorem Two.at0 {xs : List Int} {cn la : Nat} (h : Two xs cn la) {k : Nat} (hk : k < cn) : -1000 ≤ at2 xs cn 0 k ∧ at2 xs cn 0 k ≤ 1000 := by
  have := h.len
  exact h.bd _ (by omega)
theorem Two.at1 {xs : List Int} {cn la : Nat} (h : Two xs cn la) {k : Nat} (hk : k < cn) : -1000 ≤ at2 xs cn 1 k ∧ at2 xs cn 1 k ≤ 1000 := by
  have := h.len
  exact h.bd _ (by omega)
theorem Two.worst {xs : List Int} {cn la : Nat} (h : Two xs cn la) {x : Int × Int} (h1 : 0 ≤ x.1) (h2 : x.1 ≤ x.2) (h3 : x.2 ≤ 4000) : -8000000 ≤ worstV xs cn x ∧ worstV xs cn x ≤ 8000000 :=
  lowV_bd _ 8000000 (by omega) _ (fun k hk => gainK_bd h1 h2 h3 (h.at0 hk) (h.at1 hk))
set_option maxRecDepth 100000 in
set_option maxHeartbeats 4000000 in
theorem worst (cn : Nat) (a : Option Addr) (la ca : Nat) (xs : List Int) (b : Option Addr) (lb cb : Nat) (kg : Nat) (p q : Int) (w : World) (hT : Two xs cn la) (hbox : Box w kg [.int .i64 2, .int .i64 cn, .slice a la ca, .slice b lb cb]) (h : SlV (Value.int .i64) w a la xs) (h1 : 0 ≤ p) (h2 : p ≤ q) (h3 : q ≤ 4000) : Calls Try.prog 114 #[.pointer (some ⟨kg, 0, none⟩), .int .i64 p, .int .i64 q] w fun e w' => e = .returned (.int .i64 (worstV xs cn (p, q))) ∧ ∃ n, w' = w.drewN n := by
  have f1 := (hbox.2 1 _ rfl).1
  have f2 := (hbox.2 2 _ rfl).1
  have hla := hT.len
  have hc1 := hT.c1
  have hc2 := hT.c2
  obtain ⟨b1, o1, rfl, hb1, hc⟩ := h.2 (by omega)
  have HC := hid hc
  have HT := hid hT
  have HLA := hid hla
  have hl12 : la ≤ 12 := by omega
  clear hbox h hc hla hT
  obtain ⟨f, hf⟩ : ∃ f, gainK xs cn (p, q) = f := ⟨_, rfl⟩
  have HF := hid hf
  rw [worstV, hf]
  clear hf
  obtain ⟨d, hd⟩ : ∃ d, q - p = d := ⟨_, rfl⟩
  have hd0 : 0 ≤ d := by omega
  have hd1 : d ≤ 4000 := by omega
  have hdw : IntKind.i64.wrap d = d := IntWalk.i64_in _ (by omega)
  have hp4 : p ≤ 4000 := by omega
  have HFB := hid (show ∀ k, k < cn → -8000000 ≤ f k ∧ f k ≤ 8000000 from fun k hk => by rw [← HF.out]; exact gainK_bd h1 h2 h3 (HT.out.at0 hk) (HT.out.at1 hk))
  have HLB := hid (show ∀ k, k ≤ cn → -8000000 ≤ lowV f k ∧ lowV f k ≤ 8000000 from fun k hk => lowV_bd f 8000000 (by omega) k (fun i hi => HFB.out i (by omega)))
  clear h2 h3
  go_enter Try.func114, Try.ntmps114
  go_wp2_with fail
  go_loopw [7, 8, 9] (fun l i x wr => ∃ k n : Nat, k ≤ cn ∧ i = .int .i64 k ∧ l = .int .i64 (lowV f k) ∧ wr = w.drewN n) (fun _ i _ _ => cn - (intOf i).toNat)
  case atStart => exact ⟨0, 0, Nat.zero_le _, rfl, rfl, rfl⟩
  case round =>
    obtain ⟨k, n, hk, rfl, rfl, rfl⟩ := hrel
    by_cases hkl : k < cn
    · obtain ⟨s, hs⟩ : ∃ s, cn + k = s := ⟨_, rfl⟩
      have hsi : (cn : Int) + (k : Int) = (s : Int) := by rw [← hs]; push_cast; rfl
      have hsl : s < la := by have := HLA.out; omega
      have hkla : k < la := by have := HLA.out; omega
      have hsw : IntKind.i64.wrap (s : Int) = (s : Int) := IntWalk.i64_in _ (by omega)
      have c1 : w.cell? ⟨b1, o1 + k, none⟩ = some (.int .i64 (xs.getD k 0)) := HC.out k hkla
      have c2 : w.cell? ⟨b1, o1 + s, none⟩ = some (.int .i64 (xs.getD s 0)) := HC.out s hsl
      have q1 := HT.out.bd k hkla
      have q2 := HT.out.bd s hsl
      have HV : Hid (f k = p * xs.getD k 0 + d * xs.getD s 0) := hid (by
        rw [← HF.out, gainK, at2, at2, Nat.zero_mul, Nat.zero_add, Nat.one_mul, hs, hd])
      generalize xs.getD k 0 = A at *
      generalize xs.getD s 0 = B at *
      obtain ⟨m1, hm1⟩ : ∃ m, p * A = m := ⟨_, rfl⟩
      obtain ⟨m2, hm2⟩ : ∃ m, d * B = m := ⟨_, rfl⟩
      obtain ⟨m3, hm3⟩ : ∃ m, m1 + m2 = m := ⟨_, rfl⟩
      have g1 := mul_bd (a := p) (A := 4000) (by omega) hp4 q1.1 q1.2
      have g2 := mul_bd (a := d) (A := 4000) (by omega) hd1 q2.1 q2.2
      rw [hm1] at g1
      rw [hm2] at g2
      have t1 : IntKind.i64.wrap m1 = m1 := IntWalk.i64_in _ (by omega)
      have t2 : IntKind.i64.wrap m2 = m2 := IntWalk.i64_in _ (by omega)
      have t3 : IntKind.i64.wrap m3 = m3 := IntWalk.i64_in _ (by omega)
      have HV2 : Hid (f k = m3) := hid (by rw [HV.out, hm1, hm2, hm3])
      obtain ⟨L, hL⟩ : ∃ L, lowV f k = L := ⟨_, rfl⟩
      have HL := hid hL
      rw [hL]
      have i1 : (0 : Int) ≤ (s : Int) := by omega
      have i2 : (s : Int) < (la : Int) := by omega
      have i3 : (0 : Int) ≤ (k : Int) := by omega
      have i4 : (k : Int) < (la : Int) := by omega
      clear HV q1 q2 g1 g2 hs hL
      by_cases hup : k = 0 ∨ m3 < L
      · have HS : Hid (lowV f (k + 1) = m3) := hid (by rw [lowV, HV2.out, HL.out, if_pos hup])
        by_cases hk0 : k = 0
        · have h0b : ((k : Int) == 0) = true := by simp; omega
          clear hup hk0
          go_wp2_with fail
          go_quiet (fail)
          go_wp2_with fail
          go_roundw
          case rel => exact ⟨k + 1, _, by omega, by go_num, by rw [HS.out], by first | rfl | exact World.drewN_drewN ..⟩
          case measure => simp [intOf]; omega
        · have h0b : ((k : Int) == 0) = false := by simp; omega
          have hup2 : m3 < L := by omega
          clear hup hk0
          go_wp2_with fail
          go_quiet (fail)
          go_wp2_with fail
          go_roundw
          case rel => exact ⟨k + 1, _, by omega, by go_num, by rw [HS.out], by first | rfl | exact World.drewN_drewN ..⟩
          case measure => simp [intOf]; omega
      · have HS : Hid (lowV f (k + 1) = L) := hid (by rw [lowV, HV2.out, HL.out, if_neg hup])
        have h0b : ((k : Int) == 0) = false := by simp; omega
        have hup2 : ¬ m3 < L := by omega
        clear hup
        go_wp2_with fail
        go_quiet (fail)
        go_wp2_with fail
        go_roundw
        case rel => exact ⟨k + 1, _, by omega, by go_num, by rw [HS.out], by first | rfl | exact World.drewN_drewN ..⟩
        case measure => simp [intOf]; omega
    · obtain rfl : k = cn := by omega
      go_wp2_with fail
      go_ret
      exact ⟨rfl, _, rfl⟩
end TryWalk
end Go.Proofs.Ytlbmmecjiopbbaa
