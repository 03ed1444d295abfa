/- Games: valid worths. No condition. -/
import Derived.Test.YtlbmmecjiopbbaaWg2
import Derived.Deep.QuietTactic
import Derived.BigQuiet
import Derived.IntWalk
namespace Go.Proofs.Ytlbmmecjiopbbaa
open Go.RowKit Flo Sl
set_option linter.unusedVariables false
namespace TryWalk
def validW (p : Int) (xs : List Int) : Bool := inB 1 6 p && decide ((xs.length : Int) = 2 ^ p.toNat) && decide (xs.getD 0 0 = 0) && xs.all (inB (-10000) 10000)
theorem shl1 (p : Int) (h1 : 1 ≤ p) (h2 : p ≤ 6) : Op.shift .shl .i64 1 .i64 p = pure (.int .i64 (2 ^ p.toNat)) := by
  obtain rfl | rfl | rfl | rfl | rfl | rfl : p = 1 ∨ p = 2 ∨ p = 3 ∨ p = 4 ∨ p = 5 ∨ p = 6 := by omega
  all_goals kernel_rfl
theorem validW_eq {p z : Int} {xs : List Int} {len : Nat} (h1 : xs.length = len) (h2 : (2 : Int) ^ p.toNat = z) (h3 : inB 1 6 p = true) : validW p xs = ((inB z z len && xs.all (inB (-10000) 10000)) && decide (xs.getD 0 0 = 0)) := by
  have e : inB z z len = decide ((len : Int) = z) := by
    unfold inB; apply decide_eq_decide.mpr; omega
  rw [validW, h3, h1, h2, e]
  cases decide ((len : Int) = z) <;> cases xs.all (inB (-10000) 10000) <;> cases decide (xs.getD 0 0 = 0) <;> rfl
set_option maxHeartbeats 1000000 in
theorem imSets (p : Int) (a : Option Addr) (len cap : Nat) (xs : List Int) (w : World) (h : SlV (Value.int .i64) w a len xs) (hl : len ≤ 1048576) : Calls Try.prog 80 #[.slice a len cap, .int .i64 p, .int .i64 10000] w (RetB (validW p xs) w) := by
  have HH := hid h
  clear h
  obtain ⟨d, hd⟩ : ∃ d, validW p xs = d := ⟨_, rfl⟩
  rw [hd]
  have HD := hid hd
  clear hd
  obtain ⟨ok, hin⟩ : ∃ ok, inB 1 6 p = ok := ⟨_, rfl⟩
  have H119 : ∀ w, Calls Try.prog 119 #[.int .i64 p] w fun e w' => e = .returned (.bool ok) ∧ w' = w := by
    intro w
    go_enter Try.func119, Try.ntmps119
    go_wp2_with fail
    refine (within p 1 6 _).mono ?_
    rintro e w' ⟨rfl, rfl⟩
    rw [hin]
    go_wp2_with fail
    go_ret
    exact ⟨rfl, rfl⟩
  cases ok with
  | true =>
    have hp : 1 ≤ p ∧ p ≤ 6 := by unfold inB at hin; simpa using hin
    obtain ⟨hp1, hp2⟩ := hp
    have hsh := shl1 p hp1 hp2
    obtain ⟨z, hz⟩ : ∃ z : Int, 2 ^ p.toNat = z := ⟨_, rfl⟩
    have hz0 : 1 ≤ z := by rw [← hz]; have := Nat.one_le_two_pow (n := p.toNat); exact_mod_cast this
    rw [hz] at hsh
    obtain ⟨c, hc⟩ : ∃ c, (inB z z len && xs.all (inB (-10000) 10000)) = c := ⟨_, rfl⟩
    have H83 : ∀ n, Calls Try.prog 83 #[.slice a len cap, .int .i64 z, .int .i64 z, .int .i64 (-10000), .int .i64 10000] (w.drewN n) (fun e w' => e = .returned (.bool c) ∧ ∃ m, w' = (w.drewN n).drewN m) := fun n => by rw [← hc]; exact areMany a len cap xs z z _ _ _ (HH.out.drewN n) hl
    have hzw : IntKind.i64.wrap z = z := by
      have : z ≤ 64 := by
        rw [← hz]
        obtain h | h | h | h | h | h : p = 1 ∨ p = 2 ∨ p = 3 ∨ p = 4 ∨ p = 5 ∨ p = 6 := by omega
        all_goals (rw [h]; decide)
      exact IntWalk.i64_in _ (by omega)
    have H83w : ∀ n, Calls Try.prog 83 #[.slice a len cap, .int .i64 (IntKind.i64.wrap z), .int .i64 (IntKind.i64.wrap z), .int .i64 (IntKind.i64.wrap (-10000)), .int .i64 10000] (w.drewN n) (fun e w' => e = .returned (.bool c) ∧ ∃ m, w' = (w.drewN n).drewN m) := by
      rw [hzw, show IntKind.i64.wrap (-10000) = -10000 from by decide]; exact H83
    clear hzw
    have HC := hid hc
    clear hc
    cases c with
    | false =>
      obtain rfl : d = false := by
        rw [← HD.out, validW_eq HH.out.1 hz hin, HC.out]; rfl
      go_enter Try.func80, Try.ntmps80
      go_wp2_with fail
      go_quiet (first | (go_at_call 119; exact Calls.quiet_of_same (H119 _)) | (go_at_call 83; with_reducible exact Calls.quiet_of (H83w _)) | (go_at_call 83; with_reducible exact Calls.quiet_of (H83 _)))
      go_wp2_with fail
      go_ret
      exact ⟨rfl, _, rfl⟩
    | true =>
      have hlen : (len : Int) = z := by
        have := HC.out
        simp only [Bool.and_eq_true, inB, decide_eq_true_eq] at this
        omega
      obtain ⟨b, off, rfl, hb, hcell⟩ := HH.out.2 (by omega)
      have hd1 : w.cell? ⟨b, off + 0, none⟩ = some (.int .i64 (xs.getD 0 0)) := hcell 0 (by omega)
      rw [Nat.add_zero] at hd1
      clear hcell
      by_cases hx : xs.getD 0 0 = 0
      · obtain rfl : d = true := by
          rw [← HD.out, validW_eq HH.out.1 hz hin, HC.out, hx]; rfl
        rw [hx] at hd1
        go_enter Try.func80, Try.ntmps80
        go_wp2_with fail
        go_quiet (first | (go_at_call 119; exact Calls.quiet_of_same (H119 _)) | (go_at_call 83; with_reducible exact Calls.quiet_of (H83w _)) | (go_at_call 83; with_reducible exact Calls.quiet_of (H83 _)))
        go_wp2_with fail
        go_ret
        exact ⟨rfl, _, rfl⟩
      · obtain rfl : d = false := by
          rw [← HD.out, validW_eq HH.out.1 hz hin, HC.out]; simpa using hx
        have hxx : (xs.getD 0 0 == 0) = false := by simpa using hx
        generalize xs.getD 0 0 = x at *
        go_enter Try.func80, Try.ntmps80
        go_wp2_with fail
        go_quiet (first | (go_at_call 119; exact Calls.quiet_of_same (H119 _)) | (go_at_call 83; with_reducible exact Calls.quiet_of (H83w _)) | (go_at_call 83; with_reducible exact Calls.quiet_of (H83 _)))
        go_wp2_with fail
        go_ret
        exact ⟨rfl, _, rfl⟩
  | false =>
    obtain rfl : d = false := by rw [← HD.out]; simp [validW, hin]
    go_enter Try.func80, Try.ntmps80
    go_wp2_with fail
    go_quiet ((go_at_call 119; exact Calls.quiet_of_same (H119 _)))
    go_wp2_with fail
    go_ret
    exact ⟨rfl, _, rfl⟩
theorem imValidW (p : Int) (a : Option Addr) (len cap : Nat) (xs : List Int) (w : World) (h : SlV (Value.int .i64) w a len xs) (hl : len ≤ 1048576) : Calls Try.prog 27 #[.agg #[.int .i64 p, .slice a len cap]] w (RetD (validW p xs) w) := by
  go_enter Try.func27, Try.ntmps27
  go_wp2_with fail
  refine (imSets p a len cap xs _ (h.below (by repeat (first | exact Below.refl _ _ | with_reducible assumption | refine Below.alloc ?_ (by simp <;> omega) _ | refine Below.setCell ?_ (by simp <;> omega) _ | refine below_drewN ?_ _))) hl).mono ?_
  rintro e w' ⟨rfl, n, rfl⟩
  go_wp2_with fail
  go_ret
  exact ⟨rfl, by repeat (first | exact Below.refl _ _ | with_reducible assumption | refine Below.alloc ?_ (by simp <;> omega) _ | refine Below.setCell ?_ (by simp <;> omega) _ | refine below_drewN ?_ _)⟩
set_option maxHeartbeats 1000000 in
theorem l03Is (p : Int) (a : Option Addr) (len cap : Nat) (xs : List Int) (k : Nat) (w : World) (hb : Box w k [.int .i64 p, .slice a len cap]) (h : SlV (Value.int .i64) w a len xs) (hl : len ≤ 1048576) : Calls Try.prog 79 #[.pointer (some ⟨k, 0, none⟩)] w (RetB (validW p xs) w) := by
  have HH := hid h
  clear h
  have c0 : w.cell? ⟨k, 0, none⟩ = some (.int .i64 p) := (hb.2 0 _ rfl).1
  have c1 : w.cell? ⟨k, 1, none⟩ = some (.slice a len cap) := (hb.2 1 _ rfl).1
  clear hb
  obtain ⟨d, hd⟩ : ∃ d, validW p xs = d := ⟨_, rfl⟩
  rw [hd]
  have HD := hid hd
  clear hd
  obtain ⟨ok, hin⟩ : ∃ ok, inB 1 6 p = ok := ⟨_, rfl⟩
  have H96 : ∀ w, Calls Try.prog 96 #[.int .i64 p, .int .i64 1, .int .i64 6] w fun e w' => e = .returned (.bool ok) ∧ w' = w := by
    intro w; rw [← hin]; exact l00In p 1 6 w
  cases ok with
  | true =>
    have hp : 1 ≤ p ∧ p ≤ 6 := by unfold inB at hin; simpa using hin
    obtain ⟨hp1, hp2⟩ := hp
    have hsh := shl1 p hp1 hp2
    obtain ⟨z, hz⟩ : ∃ z : Int, 2 ^ p.toNat = z := ⟨_, rfl⟩
    have hz0 : 1 ≤ z := by rw [← hz]; have := Nat.one_le_two_pow (n := p.toNat); exact_mod_cast this
    have hz64 : z ≤ 64 := by
      rw [← hz]
      obtain h | h | h | h | h | h : p = 1 ∨ p = 2 ∨ p = 3 ∨ p = 4 ∨ p = 5 ∨ p = 6 := by omega
      all_goals (rw [h]; decide)
    rw [hz] at hsh
    by_cases hlz : (len : Int) = z
    · obtain ⟨b, off, rfl, hb, hcell⟩ := HH.out.2 (by omega)
      have hln : ((len : Int) != z) = false := by simpa using hlz
      have hd1 : w.cell? ⟨b, off + 0, none⟩ = some (.int .i64 (xs.getD 0 0)) := hcell 0 (by omega)
      rw [Nat.add_zero] at hd1
      clear hcell
      by_cases hx : xs.getD 0 0 = 0
      · rw [hx] at hd1
        have HV : Hid (d = xs.all (inB (-10000) 10000)) := hid (by
          rw [← HD.out, validW, hin, HH.out.1, hz, hlz, hx]; simp)
        go_enter Try.func79, Try.ntmps79
        go_wp2_with fail
        go_quiet ((go_at_call 96; with_reducible exact Calls.quiet_of_same (H96 _)))
        go_wp2_with fail
        go_loopw [3, 37] (fun x i wr => ∃ j n : Nat, j ≤ len ∧ i = .int .i64 j ∧ wr = w.drewN n ∧ ∀ m, m < j → inB (-10000) 10000 (xs.getD m 0) = true) (fun x i _ => len - (intOf i).toNat)
        case atStart => exact ⟨0, _, Nat.zero_le _, rfl, rfl, fun _ h => absurd h (Nat.not_lt_zero _)⟩
        case round =>
          obtain ⟨j, n, hk, rfl, rfl, hall⟩ := hrel
          have HA := hid hall
          clear hall
          by_cases hlt : j < len
          · obtain ⟨b1, off1, hab, hb1, hc1⟩ := HH.out.2 (by omega)
            obtain ⟨rfl, rfl⟩ : b = b1 ∧ off = off1 := by
              injection hab with h; injection h with h1 h2 h3; exact ⟨h1, h2⟩
            clear hab
            have hd2 : w.cell? ⟨b, off + j, none⟩ = some (.int .i64 (xs.getD j 0)) := hc1 j hlt
            clear hc1
            obtain ⟨c, hc⟩ : ∃ c, inB (-10000) 10000 (xs.getD j 0) = c := ⟨_, rfl⟩
            have HC := hid hc
            clear hc
            obtain ⟨x, hx⟩ : ∃ x, xs.getD j 0 = x := ⟨_, rfl⟩
            have HX := hid hx
            rw [hx] at hd2
            clear hx
            go_wp2_with fail
            refine (l00In x _ _ _).mono ?_
            rintro e w' ⟨rfl, rfl⟩
            have hcx : inB (-10000) 10000 x = c := by rw [← HX.out]; exact HC.out
            rw [hcx]
            clear hcx
            cases c with
            | true =>
              go_wp2_with fail
              go_roundw
              case rel => exact ⟨j + 1, _, by omega, by go_num, rfl, fun m hm => by
                rcases Nat.lt_succ_iff_lt_or_eq.mp hm with h | h
                · exact HA.out m h
                · subst h; exact HC.out⟩
              case measure => simp [intOf]; omega
            | false =>
              obtain rfl : d = false := by rw [HV.out]; exact all_at (by rw [HH.out.1]; exact hlt) HC.out
              go_wp2_with fail
              go_ret
              exact ⟨rfl, _, rfl⟩
          · obtain rfl : j = len := by omega
            obtain rfl : d = true := by rw [HV.out]; exact all_of (fun m hm => HA.out m (by rw [← HH.out.1]; exact hm))
            go_wp2_with fail
            go_ret
            exact ⟨rfl, _, rfl⟩
      · obtain rfl : d = false := by
          rw [← HD.out, validW, decide_eq_false hx]; simp
        have hxx : (xs.getD 0 0 != 0) = true := by simpa using hx
        generalize xs.getD 0 0 = x at *
        go_enter Try.func79, Try.ntmps79
        go_wp2_with fail
        go_quiet ((go_at_call 96; with_reducible exact Calls.quiet_of_same (H96 _)))
        go_wp2_with fail
        go_ret
        exact ⟨rfl, _, rfl⟩
    · obtain rfl : d = false := by
        rw [← HD.out, validW, HH.out.1, hz]; simp [hlz]
      have hln : ((len : Int) != z) = true := by simpa using hlz
      have hln2 : ((len : Int) == z) = false := by simpa using hlz
      have hln3 : decide ((len : Int) = z) = false := decide_eq_false hlz
      go_enter Try.func79, Try.ntmps79
      go_wp2_with fail
      go_quiet ((go_at_call 96; with_reducible exact Calls.quiet_of_same (H96 _)))
      go_wp2_with fail
      go_ret
      exact ⟨rfl, _, rfl⟩
  | false =>
    obtain rfl : d = false := by rw [← HD.out]; simp [validW, hin]
    go_enter Try.func79, Try.ntmps79
    go_wp2_with fail
    go_quiet ((go_at_call 96; with_reducible exact Calls.quiet_of_same (H96 _)))
    go_wp2_with fail
    go_ret
    exact ⟨rfl, _, rfl⟩
theorem spValidW (p : Int) (a : Option Addr) (len cap : Nat) (xs : List Int) (w : World) (h : SlV (Value.int .i64) w a len xs) (hl : len ≤ 1048576) : Calls Try.prog 26 #[.agg #[.int .i64 p, .slice a len cap]] w (RetD (validW p xs) w) := by
  have hbox : Box (w.alloc (.cells #[.int .i64 p, .slice a len cap] 27)) w.heap.size [.int .i64 p, .slice a len cap] := Box.new _ _ _
  go_enter Try.func26, Try.ntmps26
  go_wp2_with fail
  refine (l03Is p a len cap xs _ _ hbox (h.below (by repeat (first | exact Below.refl _ _ | with_reducible assumption | refine Below.alloc ?_ (by simp <;> omega) _ | refine Below.setCell ?_ (by simp <;> omega) _ | refine below_drewN ?_ _))) hl).mono ?_
  rintro e w' ⟨rfl, n, rfl⟩
  go_wp2_with fail
  go_ret
  exact ⟨rfl, by repeat (first | exact Below.refl _ _ | with_reducible assumption | refine Below.alloc ?_ (by simp <;> omega) _ | refine Below.setCell ?_ (by simp <;> omega) _ | refine below_drewN ?_ _)⟩
set_option maxHeartbeats 1000000 in
theorem fnExactValidWorths (p : Int) (a : Option Addr) (la ca : Nat) (xs : List Int) (w : World) (hp : (Lit.int .i64 p).wf = true) (hra : IsRow .i64 w a la ca xs) : Calls Try.prog 4 #[.agg #[.int .i64 p, .slice a la ca]] w (RetD true w) := by
  obtain ⟨ha, hwa, hma⟩ := hra
  by_cases hbig : 1048576 < la
  · go_enter Try.func4, Try.ntmps4
    go_wp2_with fail
    refine (szWNo _ _ _ _ 1048576 _ hbig (Nat.le_refl _) hma).mono ?_
    rintro e w1 ⟨rfl, b1⟩
    have bw : Below w.heap.size w w1 := below_to (by repeat (first | exact Below.refl _ _ | with_reducible assumption | refine Below.alloc ?_ (by simp <;> omega) _ | refine Below.setCell ?_ (by simp <;> omega) _ | refine below_drewN ?_ _)) b1
    go_wp2_with fail
    go_ret
    exact ⟨rfl, bw⟩
  · have hl : la ≤ 1048576 := by omega
    have HA := hid ha
    clear ha hwa hbig
    obtain ⟨F, hF⟩ : ∃ F, validW p xs = F := ⟨_, rfl⟩
    go_enter Try.func4, Try.ntmps4
    go_wp2_with fail
    refine (szW p a la ca 1048576 _ hl (Nat.le_refl _)).mono ?_
    rintro e w1 ⟨rfl, b1⟩
    have bx1 : Box w1 w.heap.size [.int .i64 p, .slice a la ca] := (Box.new _ _ _).below b1
    have bw1 : Below w.heap.size w w1 := below_to (by repeat (first | exact Below.refl _ _ | with_reducible assumption | refine Below.alloc ?_ (by simp <;> omega) _ | refine Below.setCell ?_ (by simp <;> omega) _ | refine below_drewN ?_ _)) b1
    have c0 := (bx1.2 0 _ rfl).1
    have c1 := (bx1.2 1 _ rfl).1
    clear b1
    go_wp2_with fail
    refine (toW p a la ca xs _ (HA.out.below (by repeat (first | exact Below.refl _ _ | with_reducible assumption | refine Below.alloc ?_ (by simp <;> omega) _ | refine Below.setCell ?_ (by simp <;> omega) _ | refine below_drewN ?_ _))) hl).mono ?_
    rintro e w2 ⟨a2, rfl, s2, b2⟩
    have bx2 := bx1.below b2
    have bw2 := below_to bw1 b2
    clear c0 c1 bx1 bw1 b2
    have c0 := (bx2.2 0 _ rfl).1
    have c1 := (bx2.2 1 _ rfl).1
    go_wp2_with fail
    refine (spValidW p a2 la la xs _ s2 hl).mono ?_
    rintro e w3 ⟨rfl, b3⟩
    rw [hF]
    have bx3 := bx2.below b3
    have bw3 := below_to bw2 b3
    clear c0 c1 bx2 bw2 b3 s2
    have c0 := (bx3.2 0 _ rfl).1
    have c1 := (bx3.2 1 _ rfl).1
    go_wp2_with fail
    refine (toW p a la ca xs _ (HA.out.below (by repeat (first | exact Below.refl _ _ | with_reducible assumption | refine Below.alloc ?_ (by simp <;> omega) _ | refine Below.setCell ?_ (by simp <;> omega) _ | refine below_drewN ?_ _))) hl).mono ?_
    rintro e w4 ⟨a4, rfl, s4, b4⟩
    have bx4 := bx3.below b4
    have bw4 := below_to bw3 b4
    clear c0 c1 bx3 bw3 b4
    have c0 := (bx4.2 0 _ rfl).1
    have c1 := (bx4.2 1 _ rfl).1
    go_wp2_with fail
    have ex5 : Box (w4.alloc (.cells #[.int .i64 p, .slice a4 la la] 27)) w4.heap.size [.int .i64 p, .slice a4 la la] := Box.new _ _ _
    have s5 : SlV (Value.int .i64) (w4.alloc (.cells #[.int .i64 p, .slice a4 la la] 27)) a4 la xs := s4.below (by repeat (first | exact Below.refl _ _ | with_reducible assumption | refine Below.alloc ?_ (by simp <;> omega) _ | refine Below.setCell ?_ (by simp <;> omega) _ | refine below_drewN ?_ _))
    refine (imValidW p a4 la la xs _ s5 hl).mono ?_
    rintro e w5 ⟨rfl, b5⟩
    rw [hF]
    have s5 := s5.below b5
    have ex5 := ex5.below b5
    have bx5 : Box w5 w.heap.size [.int .i64 p, .slice a la ca] := (bx4.al _).below b5
    have bw5 : Below w.heap.size w w5 := below_to (bw4.alloc bw4.size _) b5
    clear c0 c1 bx4 bw4 b5
    have c0 := (bx5.2 0 _ rfl).1
    have c1 := (bx5.2 1 _ rfl).1
    have d0 := (ex5.2 0 _ rfl).1
    have d1 := (ex5.2 1 _ rfl).1
    have hFF : (F != F) = false := by simp
    go_wp2_with fail
    go_region_with (first
      | (go_at_call 23
         refine (toW p a la ca xs _ (HA.out.below (by repeat (first | exact Below.refl _ _ | with_reducible assumption | refine Below.alloc ?_ (by simp <;> omega) _ | refine Below.setCell ?_ (by simp <;> omega) _ | refine below_drewN ?_ _))) hl).mono ?_
         rintro e w6 ⟨a6, rfl, s6, b6⟩
         have bx6 := (bx5.dr _).below b6
         have ex6 := (ex5.dr _).below b6
         have t6 := (s5.drewN _).below b6
         have bw6 := below_to (below_drewN bw5 _) b6
         have c0 := (bx6.2 0 _ rfl).1
         have c1 := (bx6.2 1 _ rfl).1
         have d0 := (ex6.2 0 _ rfl).1
         have d1 := (ex6.2 1 _ rfl).1)
      | (go_at_call 25
         refine (eqW p p _ _ la la _ _ xs xs _ (by assumption) (by assumption) hl hl).mono ?_
         rintro e w7 ⟨rfl, b7⟩
         have bw7 := below_to (by assumption) b7))
    all_goals (go_wp2_with fail; go_ret; exact ⟨rfl, bw7⟩)
end TryWalk
end Go.Proofs.Ytlbmmecjiopbbaa
