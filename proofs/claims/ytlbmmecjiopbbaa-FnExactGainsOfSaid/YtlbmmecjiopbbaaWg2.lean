/- Games: ranges of lists, valid worths. No condition. -/
import Derived.Test.YtlbmmecjiopbbaaWg1
namespace Go.Proofs.Ytlbmmecjiopbbaa
open Go.RowKit Flo Sl
set_option linter.unusedVariables false
namespace TryWalk
def inB (lo hi n : Int) : Bool := decide (lo ≤ n ∧ n ≤ hi)
def RetB (d : Bool) (w : World) (e : Ending) (w' : World) : Prop := e = .returned (.bool d) ∧ ∃ n, w' = w.drewN n
theorem l00In (n lo hi : Int) (w : World) : Calls Try.prog 96 #[.int .i64 n, .int .i64 lo, .int .i64 hi] w fun e w' => e = .returned (.bool (inB lo hi n)) ∧ w' = w := by
  have hd : decide (n ≥ lo) = decide (lo ≤ n) := rfl
  obtain ⟨d, hd⟩ : ∃ d, inB lo hi n = d := ⟨_, rfl⟩
  rw [hd]
  unfold inB at hd
  by_cases h1 : lo ≤ n
  · by_cases h2 : n ≤ hi
    · have h3 : decide (lo ≤ n) = true := by simpa using h1
      have h4 : decide (n ≤ hi) = true := by simpa using h2
      obtain rfl : d = true := by rw [← hd]; simp [h1, h2]
      go_enter Try.func96, Try.ntmps96
      go_wp2_with fail
      go_ret
      exact ⟨rfl, rfl⟩
    · have h3 : decide (lo ≤ n) = true := by simpa using h1
      have h4 : decide (n ≤ hi) = false := by simpa using h2
      obtain rfl : d = false := by rw [← hd]; simp [h1, h2]
      go_enter Try.func96, Try.ntmps96
      go_wp2_with fail
      go_ret
      exact ⟨rfl, rfl⟩
  · have h3 : decide (lo ≤ n) = false := by simpa using h1
    obtain rfl : d = false := by rw [← hd]; simp [h1]
    go_enter Try.func96, Try.ntmps96
    go_wp2_with fail
    go_ret
    exact ⟨rfl, rfl⟩
theorem within (n lo hi : Int) (w : World) : Calls Try.prog 117 #[.int .i64 n, .int .i64 lo, .int .i64 hi] w fun e w' => e = .returned (.bool (inB lo hi n)) ∧ w' = w := by
  obtain ⟨d, hd⟩ : ∃ d, inB lo hi n = d := ⟨_, rfl⟩
  rw [hd]
  unfold inB at hd
  by_cases h1 : lo ≤ n
  · by_cases h2 : n ≤ hi
    · have h3 : decide (lo ≤ n) = true := by simpa using h1
      have h4 : decide (n ≤ hi) = true := by simpa using h2
      obtain rfl : d = true := by rw [← hd]; simp [h1, h2]
      go_enter Try.func117, Try.ntmps117
      go_wp2_with fail
      go_ret
      exact ⟨rfl, rfl⟩
    · have h3 : decide (lo ≤ n) = true := by simpa using h1
      have h4 : decide (n ≤ hi) = false := by simpa using h2
      obtain rfl : d = false := by rw [← hd]; simp [h1, h2]
      go_enter Try.func117, Try.ntmps117
      go_wp2_with fail
      go_ret
      exact ⟨rfl, rfl⟩
  · have h3 : decide (lo ≤ n) = false := by simpa using h1
    obtain rfl : d = false := by rw [← hd]; simp [h1]
    go_enter Try.func117, Try.ntmps117
    go_wp2_with fail
    go_ret
    exact ⟨rfl, rfl⟩
theorem all_at {xs : List Int} {f : Int → Bool} {k : Nat} (hk : k < xs.length) (h : f (xs.getD k 0) = false) : xs.all f = false := by
  rw [List.all_eq_false]
  refine ⟨xs.getD k 0, ?_, by rw [h]; simp⟩
  rw [List.getD_eq_getElem?_getD, List.getElem?_eq_getElem hk]; exact List.getElem_mem hk
theorem all_of {xs : List Int} {f : Int → Bool} (h : ∀ k, k < xs.length → f (xs.getD k 0) = true) : xs.all f = true := by
  rw [List.all_eq_true]
  intro x hx
  obtain ⟨i, hi, rfl⟩ := List.getElem_of_mem hx
  have := h i hi
  rwa [List.getD_eq_getElem?_getD, List.getElem?_eq_getElem hi] at this
set_option maxHeartbeats 400000 in
theorem areWithin (a : Option Addr) (len cap : Nat) (xs : List Int) (lo hi : Int) (w : World) (h : SlV (Value.int .i64) w a len xs) (hl : len ≤ 1048576) : Calls Try.prog 120 #[.slice a len cap, .int .i64 lo, .int .i64 hi] w (RetB (xs.all (inB lo hi)) w) := by
  have H := hid h
  clear h
  obtain ⟨d, hd⟩ : ∃ d, xs.all (inB lo hi) = d := ⟨_, rfl⟩
  rw [hd]
  have HD := hid hd
  clear hd
  go_enter Try.func120, Try.ntmps120
  go_wp2_with fail
  go_loopw [8, 11] (fun x i wr => ∃ k n : Nat, k ≤ len ∧ i = .int .i64 k ∧ wr = w.drewN n ∧ ∀ j, j < k → inB lo hi (xs.getD j 0) = true) (fun x i _ => len - (intOf i).toNat)
  case atStart => exact ⟨0, 0, Nat.zero_le _, rfl, rfl, fun _ h => absurd h (Nat.not_lt_zero _)⟩
  case round =>
    obtain ⟨k, n, hk, rfl, rfl, hall⟩ := hrel
    have HA := hid hall
    clear hall
    by_cases hlt : k < len
    · obtain ⟨b1, off1, rfl, hb1, hc1⟩ := H.out.2 (by omega)
      have hd1 : w.cell? ⟨b1, off1 + k, none⟩ = some (.int .i64 (xs.getD k 0)) := hc1 k hlt
      clear hc1
      obtain ⟨c, hc⟩ : ∃ c, inB lo hi (xs.getD k 0) = c := ⟨_, rfl⟩
      have HC := hid hc
      clear hc
      obtain ⟨x, hx⟩ : ∃ x, xs.getD k 0 = x := ⟨_, rfl⟩
      have HX := hid hx
      rw [hx] at hd1
      clear hx
      go_wp2_with fail
      refine (within x lo hi _).mono ?_
      rintro e w' ⟨rfl, rfl⟩
      have hcx : inB lo hi x = c := by rw [← HX.out]; exact HC.out
      rw [hcx]
      clear hcx
      cases c with
      | true =>
        go_wp2_with fail
        go_roundw
        case rel => exact ⟨k + 1, _, by omega, by go_num, rfl, fun j hj => by
            rcases Nat.lt_succ_iff_lt_or_eq.mp hj with h | h
            · exact HA.out j h
            · subst h; exact HC.out⟩
        case measure => simp [intOf]; omega
      | false =>
        obtain rfl : d = false := by rw [← HD.out]; exact all_at (by rw [H.out.1]; exact hlt) HC.out
        go_wp2_with fail
        go_ret
        exact ⟨rfl, _, rfl⟩
    · obtain rfl : k = len := by omega
      obtain rfl : d = true := by rw [← HD.out]; exact all_of (fun j hj => HA.out j (by rw [← H.out.1]; exact hj))
      go_wp2_with fail
      go_ret
      exact ⟨rfl, _, rfl⟩
theorem areMany (a : Option Addr) (len cap : Nat) (xs : List Int) (few many lo hi : Int) (w : World) (h : SlV (Value.int .i64) w a len xs) (hl : len ≤ 1048576) : Calls Try.prog 83 #[.slice a len cap, .int .i64 few, .int .i64 many, .int .i64 lo, .int .i64 hi] w (RetB (inB few many len && xs.all (inB lo hi)) w) := by
  obtain ⟨d, hd⟩ : ∃ d, inB few many len = d := ⟨_, rfl⟩
  obtain ⟨c, hc⟩ : ∃ c, xs.all (inB lo hi) = c := ⟨_, rfl⟩
  rw [hd, hc]
  go_enter Try.func83, Try.ntmps83
  go_wp2_with fail
  refine (within len few many _).mono ?_
  rintro e w' ⟨rfl, rfl⟩
  rw [hd]
  cases d with
  | false =>
    go_wp2_with fail
    go_ret
    exact ⟨rfl, 0, rfl⟩
  | true =>
    go_wp2_with fail
    refine (areWithin a len cap xs lo hi _ h hl).mono ?_
    rintro e w' ⟨rfl, n, rfl⟩
    rw [hc]
    go_wp2_with fail
    go_ret
    exact ⟨rfl, _, rfl⟩
end TryWalk
end Go.Proofs.Ytlbmmecjiopbbaa
