/- Games: valid games. No condition. -/
import Derived.Test.YtlbmmecjiopbbaaWg6
namespace Go.Proofs.Ytlbmmecjiopbbaa
open Go.RowKit Flo Sl
set_option linter.unusedVariables false
namespace TryWalk
def gainsB (z : Int) (xs : List Int) : Bool := decide ((xs.length : Int) = z) && xs.all (inB (-1000) 1000)
def validG (r c : Int) (xs ys : List Int) : Bool := inB 1 6 r && inB 1 6 c && gainsB (r * c) xs && gainsB (r * c) ys
theorem isSide (n : Int) (w : World) : Calls Try.prog 82 #[.int .i64 n] w fun e w' => e = .returned (.bool (inB 1 6 n)) ∧ w' = w := by
  go_enter Try.func82, Try.ntmps82
  go_wp2_with fail
  refine (within n 1 6 _).mono ?_
  rintro e w' ⟨rfl, rfl⟩
  go_wp2_with fail
  go_ret
  exact ⟨rfl, rfl⟩
theorem prodB {r c : Int} (hr : inB 1 6 r = true) (hc : inB 1 6 c = true) : 1 ≤ r * c ∧ r * c ≤ 36 := by
  unfold inB at hr hc
  simp only [decide_eq_true_eq] at hr hc
  obtain ⟨h1, h2⟩ := hr
  obtain ⟨h3, h4⟩ := hc
  constructor
  · have := Int.mul_le_mul h1 h3 (by omega) (by omega)
    omega
  · have := Int.mul_le_mul h2 h4 (by omega) (by omega)
    omega
theorem isGains (r c : Int) (a : Option Addr) (len cap : Nat) (xs : List Int) (w : World) (hr : inB 1 6 r = true) (hc : inB 1 6 c = true) (h : SlV (Value.int .i64) w a len xs) (hl : len ≤ 1048576) : Calls Try.prog 86 #[.slice a len cap, .int .i64 r, .int .i64 c] w (RetB (gainsB (r * c) xs) w) := by
  obtain ⟨z, hz⟩ : ∃ z, r * c = z := ⟨_, rfl⟩
  have hzb := prodB hr hc
  rw [hz] at hzb
  have he : gainsB z xs = (inB z z len && xs.all (inB (-1000) 1000)) := by
    unfold gainsB
    congr 1
    unfold inB; apply decide_eq_decide.mpr; rw [h.1]; omega
  have hzw : IntKind.i64.wrap (r * c) = z := by rw [hz]; exact IntWalk.i64_in _ (by omega)
  rw [hz, he]
  obtain ⟨d, hd⟩ : ∃ d, (inB z z len && xs.all (inB (-1000) 1000)) = d := ⟨_, rfl⟩
  have H := areMany a len cap xs z z (-1000) 1000 w h hl
  rw [hd] at H
  rw [hd]
  have HH := hid H
  have HZ := hid hz
  have hrc : -9223372036854775808 ≤ r * c ∧ r * c ≤ 9223372036854775807 := by rw [hz]; omega
  clear H hz hd he h hr hc
  go_enter Try.func86, Try.ntmps86
  go_wp2_with fail
  have hz := HZ.out
  first | rw [hzw] | skip
  first | rw [hz] | skip
  refine HH.out.mono ?_
  rintro e w' ⟨rfl, n, rfl⟩
  go_wp2_with fail
  go_ret
  exact ⟨rfl, n, rfl⟩
set_option maxHeartbeats 400000 in
theorem l02Gains (a : Option Addr) (len cap : Nat) (xs : List Int) (z : Int) (w : World) (h : SlV (Value.int .i64) w a len xs) (hl : len ≤ 1048576) : Calls Try.prog 122 #[.slice a len cap, .int .i64 z] w (RetB (gainsB z xs) w) := by
  have H := hid h
  clear h
  obtain ⟨d, hd⟩ : ∃ d, gainsB z xs = d := ⟨_, rfl⟩
  rw [hd]
  have HD := hid hd
  clear hd
  go_enter Try.func122, Try.ntmps122
  go_wp2_with fail
  go_loopw [5] (fun i wr => ∃ k n : Nat, k ≤ len ∧ i = .int .i64 k ∧ wr = w.drewN n ∧ ∀ j, j < k → inB (-1000) 1000 (xs.getD j 0) = true) (fun i _ => len - (intOf i).toNat)
  case atStart => exact ⟨0, 0, Nat.zero_le _, rfl, rfl, fun _ h => absurd h (Nat.not_lt_zero _)⟩
  case round =>
    obtain ⟨k, n, hk, rfl, rfl, hall⟩ := hrel
    have HA := hid hall
    clear hall
    by_cases hlt : k < len
    · obtain ⟨b1, off1, rfl, hb1, hc1⟩ := H.out.2 (by omega)
      have hd1 : w.cell? ⟨b1, off1 + k, none⟩ = some (.int .i64 (xs.getD k 0)) := hc1 k hlt
      clear hc1
      obtain ⟨c, hc⟩ : ∃ c, inB (-1000) 1000 (xs.getD k 0) = c := ⟨_, rfl⟩
      have HC := hid hc
      clear hc
      obtain ⟨x, hx⟩ : ∃ x, xs.getD k 0 = x := ⟨_, rfl⟩
      have HX := hid hx
      rw [hx] at hd1
      clear hx
      go_wp2_with fail
      refine (l00In x _ _ _).mono ?_
      rintro e w' ⟨rfl, rfl⟩
      have hcx : inB (-1000) 1000 x = c := by rw [← HX.out]; exact HC.out
      rw [hcx]
      clear hcx
      cases c with
      | true =>
        go_wp2_with fail
        go_roundw
        case rel => exact ⟨k + 1, _, by omega, by go_num, rfl, fun j hj => by
            rcases Nat.lt_succ_iff_lt_or_eq.mp hj with h | h
            · exact HA.out j h
            · subst h; exact HC.out⟩
        case measure => simp [intOf]; omega
      | false =>
        obtain rfl : d = false := by
          rw [← HD.out, gainsB, all_at (by rw [H.out.1]; exact hlt) HC.out]; simp
        go_wp2_with fail
        go_ret
        exact ⟨rfl, _, rfl⟩
    · obtain rfl : k = len := by omega
      have ha : xs.all (inB (-1000) 1000) = true := all_of (fun j hj => HA.out j (by rw [← H.out.1]; exact hj))
      by_cases hkz : (k : Int) = z
      · have hkb : ((k : Int) == z) = true := by simpa using hkz
        obtain rfl : d = true := by
          rw [← HD.out, gainsB, ha, H.out.1]; simpa using hkz
        clear ha
        go_wp2_with fail
        go_ret
        exact ⟨rfl, _, rfl⟩
      · have hkb : ((k : Int) == z) = false := by simpa using hkz
        obtain rfl : d = false := by
          rw [← HD.out, gainsB, ha, H.out.1]; simpa using hkz
        clear ha
        go_wp2_with fail
        go_ret
        exact ⟨rfl, _, rfl⟩
end TryWalk
end Go.Proofs.Ytlbmmecjiopbbaa
