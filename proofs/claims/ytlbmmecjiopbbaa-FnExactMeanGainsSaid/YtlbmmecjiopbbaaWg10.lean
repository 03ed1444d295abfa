/- Games: the law on valid players. No condition. -/
import Derived.Test.YtlbmmecjiopbbaaWg9
namespace Go.Proofs.Ytlbmmecjiopbbaa
open Go.RowKit Flo Sl
set_option linter.unusedVariables false
namespace TryWalk
def validP (own other : Int) (xs ys : List Int) : Bool := inB 1 6 own && inB 1 6 other && inB 1 8 (xs.length : Int) && decide ((ys.length : Int) = (xs.length : Int) * other) && xs.all (inB 0 (own - 1)) && ys.all (inB 0 ((xs.length : Int) - 1))
theorem inB_iff {lo hi n : Int} : inB lo hi n = true ↔ lo ≤ n ∧ n ≤ hi := by unfold inB; simp
theorem prod8 {la : Nat} {c : Int} (h1 : inB 1 8 (la : Int) = true) (h2 : inB 1 6 c = true) : 1 ≤ (la : Int) * c ∧ (la : Int) * c ≤ 48 := by
  obtain ⟨a1, a2⟩ := inB_iff.mp h1
  obtain ⟨b1, b2⟩ := inB_iff.mp h2
  constructor
  · have := Int.mul_le_mul a1 b1 (by omega) (by omega)
    omega
  · have := Int.mul_le_mul a2 b2 (by omega) (by omega)
    omega
theorem inB_self (z n : Int) : inB z z n = decide (n = z) := by
  unfold inB; apply decide_eq_decide.mpr; omega
set_option maxHeartbeats 2000000 in
theorem imValidP (a : Option Addr) (la ca : Nat) (xs : List Int) (b : Option Addr) (lb cb : Nat) (ys : List Int) (own other : Int) (w : World) (h : SlV (Value.int .i64) w a la xs) (g : SlV (Value.int .i64) w b lb ys) (hla : la ≤ 1048576) (hlb : lb ≤ 1048576) : Calls Try.prog 31 #[.agg #[.slice a la ca, .slice b lb cb], .int .i64 own, .int .i64 other] w (RetD (validP own other xs ys) w) := by
  have bw : Below w.heap.size w (w.alloc (.cells #[.slice a la ca, .slice b lb cb] 36)) := Below.alloc (Below.refl _ _) (Nat.le_refl _) _
  obtain ⟨d, hd⟩ : ∃ d, validP own other xs ys = d := ⟨_, rfl⟩
  rw [hd]
  have HA := hid h
  have HB := hid g
  obtain ⟨d1, hd1⟩ : ∃ d, inB 1 6 own = d := ⟨_, rfl⟩
  obtain ⟨d2, hd2⟩ : ∃ d, inB 1 6 other = d := ⟨_, rfl⟩
  obtain ⟨d3, hd3⟩ : ∃ d, inB 1 8 (la : Int) = d := ⟨_, rfl⟩
  obtain ⟨d4, hd4⟩ : ∃ d, decide ((lb : Int) = (la : Int) * other) = d := ⟨_, rfl⟩
  obtain ⟨d5, hd5⟩ : ∃ d, xs.all (inB 0 (own - 1)) = d := ⟨_, rfl⟩
  obtain ⟨d6, hd6⟩ : ∃ d, ys.all (inB 0 ((la : Int) - 1)) = d := ⟨_, rfl⟩
  have H1 := hid hd1
  have H2 := hid hd2
  have H3 := hid hd3
  have H4 := hid hd4
  have H5 := hid hd5
  have H6 := hid hd6
  have HE : Hid (d = (d1 && d2 && d3 && d4 && d5 && d6)) := hid (by rw [← hd, ← hd1, ← hd2, ← hd3, ← hd4, ← hd5, ← hd6, validP, h.1, g.1])
  clear hd hd1 hd2 hd3 hd4 hd5 hd6 h g
  go_enter Try.func31, Try.ntmps31
  go_wp2_with fail
  refine (isSide own _).mono ?_
  rintro e w' ⟨rfl, rfl⟩
  rw [H1.out]
  cases d1 with
  | false =>
    obtain rfl : d = false := by rw [HE.out]; rfl
    go_wp2_with fail
    go_ret
    exact ⟨rfl, bw⟩
  | true =>
    have ho := inB_iff.mp H1.out
    go_wp2_with fail
    refine (isSide other _).mono ?_
    rintro e w' ⟨rfl, rfl⟩
    rw [H2.out]
    cases d2 with
    | false =>
      obtain rfl : d = false := by rw [HE.out]; rfl
      go_wp2_with fail
      go_ret
      exact ⟨rfl, bw⟩
    | true =>
      have ho1 : 1 ≤ own := ho.1
      have ho2 : own ≤ 6 := ho.2
      clear ho
      go_wp2_with fail
      refine (areMany a la ca xs 1 8 0 (own - 1) _ (HA.out.below bw) hla).mono ?_
      rintro e w' ⟨rfl, n, rfl⟩
      rw [H3.out, H5.out]
      cases d3 with
      | false =>
        obtain rfl : d = false := by rw [HE.out]; rfl
        rw [Bool.false_and]
        go_wp2_with fail
        go_ret
        exact ⟨rfl, below_drewN bw n⟩
      | true =>
        rw [Bool.true_and]
        cases d5 with
        | false =>
          obtain rfl : d = false := by rw [HE.out]; cases d4 <;> rfl
          go_wp2_with fail
          go_ret
          exact ⟨rfl, below_drewN bw n⟩
        | true =>
          have hz := prod8 H3.out H2.out
          have hz1 : 1 ≤ (la : Int) * other := hz.1
          have hz2 : (la : Int) * other ≤ 48 := hz.2
          clear hz
          go_wp2_with fail
          refine (areMany b lb cb ys ((la : Int) * other) ((la : Int) * other) 0 ((la : Int) - 1) _ ((HB.out.below bw).drewN n) hlb).mono ?_
          rintro e w' ⟨rfl, n2, rfl⟩
          rw [inB_self, H4.out, H6.out]
          have HF : (d4 && d6) = d := by rw [HE.out]; cases d4 <;> cases d6 <;> rfl
          rw [HF]
          clear HF
          go_wp2_with fail
          go_ret
          exact ⟨rfl, below_drewN bw (n + n2)⟩
set_option maxHeartbeats 4000000 in
theorem l02Player (a : Option Addr) (la ca : Nat) (xs : List Int) (b : Option Addr) (lb cb : Nat) (ys : List Int) (own other : Int) (k : Nat) (w : World) (hbox : Box w k [.slice a la ca, .slice b lb cb]) (h : SlV (Value.int .i64) w a la xs) (g : SlV (Value.int .i64) w b lb ys) (hla : la ≤ 1048576) (hlb : lb ≤ 1048576) : Calls Try.prog 81 #[.pointer (some ⟨k, 0, none⟩), .int .i64 own, .int .i64 other] w (RetB (validP own other xs ys) w) := by
  have f0 := (hbox.2 0 _ rfl).1
  have f1 := (hbox.2 1 _ rfl).1
  clear hbox
  obtain ⟨d, hd⟩ : ∃ d, validP own other xs ys = d := ⟨_, rfl⟩
  rw [hd]
  have HA := hid h
  have HB := hid g
  obtain ⟨d1, hd1⟩ : ∃ d, inB 1 6 own = d := ⟨_, rfl⟩
  obtain ⟨d2, hd2⟩ : ∃ d, inB 1 6 other = d := ⟨_, rfl⟩
  obtain ⟨d3, hd3⟩ : ∃ d, inB 1 8 (la : Int) = d := ⟨_, rfl⟩
  obtain ⟨d4, hd4⟩ : ∃ d, decide ((lb : Int) = (la : Int) * other) = d := ⟨_, rfl⟩
  obtain ⟨d5, hd5⟩ : ∃ d, xs.all (inB 0 (own - 1)) = d := ⟨_, rfl⟩
  obtain ⟨d6, hd6⟩ : ∃ d, ys.all (inB 0 ((la : Int) - 1)) = d := ⟨_, rfl⟩
  have H1 := hid hd1
  have H2 := hid hd2
  have H3 := hid hd3
  have H4 := hid hd4
  have H5 := hid hd5
  have H6 := hid hd6
  have HE : Hid (d = (d1 && d2 && d3 && d4 && d5 && d6)) := hid (by rw [← hd, ← hd1, ← hd2, ← hd3, ← hd4, ← hd5, ← hd6, validP, h.1, g.1])
  clear hd hd1 hd2 hd3 hd4 hd5 hd6 h g
  go_enter Try.func81, Try.ntmps81
  go_wp2_with fail
  refine (l00In own 1 6 _).mono ?_
  rintro e w' ⟨rfl, hw⟩
  rw [hw, H1.out]
  clear hw w'
  cases d1 with
  | false =>
    obtain rfl : d = false := by rw [HE.out]; rfl
    go_wp2_with fail
    go_ret
    exact ⟨rfl, 0, rfl⟩
  | true =>
    go_wp2_with fail
    refine (l00In other 1 6 _).mono ?_
    rintro e w' ⟨rfl, hw⟩
    rw [hw, H2.out]
    clear hw w'
    cases d2 with
    | false =>
      obtain rfl : d = false := by rw [HE.out]; rfl
      go_wp2_with fail
      go_ret
      exact ⟨rfl, 0, rfl⟩
    | true =>
      go_wp2_with fail
      refine (l00In (la : Int) 1 8 _).mono ?_
      rintro e w' ⟨rfl, hw⟩
      rw [hw, H3.out]
      clear hw w'
      cases d3 with
      | false =>
        obtain rfl : d = false := by rw [HE.out]; rfl
        go_wp2_with fail
        go_ret
        exact ⟨rfl, 0, rfl⟩
      | true =>
        have ho1 : 1 ≤ own := (inB_iff.mp H1.out).1
        have ho2 : own ≤ 6 := (inB_iff.mp H1.out).2
        have hz1 : 1 ≤ (la : Int) * other := (prod8 H3.out H2.out).1
        have hz2 : (la : Int) * other ≤ 48 := (prod8 H3.out H2.out).2
        cases d4 with
        | false =>
          obtain rfl : d = false := by rw [HE.out]; rfl
          have hne : ((lb : Int) != (la : Int) * other) = true := by
            have := H4.out; simpa using this
          go_wp2_with fail
          go_ret
          exact ⟨rfl, 0, rfl⟩
        | true =>
          have heq : ((lb : Int) != (la : Int) * other) = false := by
            have := H4.out; simpa using this
          have HE2 : Hid (d = (d5 && d6)) := hid (by rw [HE.out]; cases d5 <;> rfl)
          go_wp2_with fail
          clear heq
          go_loopw [8] (fun i wr => ∃ j n : Nat, j ≤ la ∧ i = .int .i64 j ∧ wr = w.drewN n ∧ ∀ m, m < j → inB 0 (own - 1) (xs.getD m 0) = true) (fun i _ => la - (intOf i).toNat)
          case atStart => exact ⟨0, 0, Nat.zero_le _, rfl, rfl, fun _ h => absurd h (Nat.not_lt_zero _)⟩
          case round =>
            obtain ⟨j, n, hk, rfl, rfl, hall⟩ := hrel
            have HAL := hid hall
            clear hall
            by_cases hlt : j < la
            · obtain ⟨b1, off1, rfl, hb1, hc1⟩ := HA.out.2 (by omega)
              have hd2 : w.cell? ⟨b1, off1 + j, none⟩ = some (.int .i64 (xs.getD j 0)) := hc1 j hlt
              clear hc1
              obtain ⟨c, hc⟩ : ∃ c, inB 0 (own - 1) (xs.getD j 0) = c := ⟨_, rfl⟩
              have HC := hid hc
              clear hc
              obtain ⟨x, hx⟩ : ∃ x, xs.getD j 0 = x := ⟨_, rfl⟩
              have HX := hid hx
              rw [hx] at hd2
              clear hx
              go_wp2_with fail
              refine (l00In x _ _ _).mono ?_
              rintro e w' ⟨rfl, hw⟩
              have hcx : inB 0 (own - 1) x = c := by rw [← HX.out]; exact HC.out
              rw [hw, hcx]
              clear hcx hw w'
              cases c with
              | true =>
                go_wp2_with fail
                go_roundw
                case rel => exact ⟨j + 1, _, by omega, by go_num, rfl, fun m hm => by
                  rcases Nat.lt_succ_iff_lt_or_eq.mp hm with h | h
                  · exact HAL.out m h
                  · subst h; exact HC.out⟩
                case measure => simp [intOf]; omega
              | false =>
                obtain rfl : d = false := by
                  have : d5 = false := by rw [← H5.out]; exact all_at (by rw [HA.out.1]; exact hlt) HC.out
                  rw [HE2.out, this]; rfl
                go_wp2_with fail
                go_ret
                exact ⟨rfl, _, rfl⟩
            · obtain rfl : j = la := by omega
              have h5 : d5 = true := by rw [← H5.out]; exact all_of (fun m hm => HAL.out m (by rw [← HA.out.1]; exact hm))
              have HE3 : Hid (d = d6) := hid (by rw [HE2.out, h5]; rfl)
              clear h5
              go_wp2_with fail
              go_loopw [9] (fun i wr => ∃ q n : Nat, q ≤ lb ∧ i = .int .i64 q ∧ wr = w.drewN n ∧ ∀ m, m < q → inB 0 ((j : Int) - 1) (ys.getD m 0) = true) (fun i _ => lb - (intOf i).toNat)
              case atStart => exact ⟨0, _, Nat.zero_le _, rfl, rfl, fun _ h => absurd h (Nat.not_lt_zero _)⟩
              case round =>
                obtain ⟨q, n2, hk2, rfl, rfl, hall2⟩ := hrel
                have HAL2 := hid hall2
                clear hall2
                by_cases hlt2 : q < lb
                · obtain ⟨b1, off1, rfl, hb1, hc1⟩ := HB.out.2 (by omega)
                  have hd2 : w.cell? ⟨b1, off1 + q, none⟩ = some (.int .i64 (ys.getD q 0)) := hc1 q hlt2
                  clear hc1
                  obtain ⟨c, hc⟩ : ∃ c, inB 0 ((j : Int) - 1) (ys.getD q 0) = c := ⟨_, rfl⟩
                  have HC := hid hc
                  clear hc
                  obtain ⟨x, hx⟩ : ∃ x, ys.getD q 0 = x := ⟨_, rfl⟩
                  have HX := hid hx
                  rw [hx] at hd2
                  clear hx
                  go_wp2_with fail
                  refine (l00In x _ _ _).mono ?_
                  rintro e w' ⟨rfl, hw⟩
                  have hcx : inB 0 ((j : Int) - 1) x = c := by rw [← HX.out]; exact HC.out
                  rw [hw, hcx]
                  clear hcx hw w'
                  cases c with
                  | true =>
                    go_wp2_with fail
                    go_roundw
                    case rel => exact ⟨q + 1, _, by omega, by go_num, rfl, fun m hm => by
                      rcases Nat.lt_succ_iff_lt_or_eq.mp hm with h | h
                      · exact HAL2.out m h
                      · subst h; exact HC.out⟩
                    case measure => simp [intOf]; omega
                  | false =>
                    obtain rfl : d = false := by
                      rw [HE3.out, ← H6.out]; exact all_at (by rw [HB.out.1]; exact hlt2) HC.out
                    go_wp2_with fail
                    go_ret
                    exact ⟨rfl, _, rfl⟩
                · obtain rfl : q = lb := by omega
                  obtain rfl : d = true := by
                    rw [HE3.out, ← H6.out]; exact all_of (fun m hm => HAL2.out m (by rw [← HB.out.1]; exact hm))
                  go_wp2_with fail
                  go_ret
                  exact ⟨rfl, _, rfl⟩
theorem spValidP (a : Option Addr) (la ca : Nat) (xs : List Int) (b : Option Addr) (lb cb : Nat) (ys : List Int) (own other : Int) (w : World) (h : SlV (Value.int .i64) w a la xs) (g : SlV (Value.int .i64) w b lb ys) (hla : la ≤ 1048576) (hlb : lb ≤ 1048576) : Calls Try.prog 29 #[.agg #[.slice a la ca, .slice b lb cb], .int .i64 own, .int .i64 other] w (RetD (validP own other xs ys) w) := by
  have bw : Below w.heap.size w (w.alloc (.cells #[.slice a la ca, .slice b lb cb] 36)) := Below.alloc (Below.refl _ _) (Nat.le_refl _) _
  have hbox : Box (w.alloc (.cells #[.slice a la ca, .slice b lb cb] 36)) w.heap.size [.slice a la ca, .slice b lb cb] := Box.new _ _ _
  go_enter Try.func29, Try.ntmps29
  go_wp2_with fail
  refine (l02Player a la ca xs b lb cb ys own other _ _ hbox (h.below bw) (g.below bw) hla hlb).mono ?_
  rintro e w' ⟨rfl, n, rfl⟩
  go_wp2_with fail
  go_ret
  exact ⟨rfl, below_drewN bw n⟩
theorem bothValidP (la : Nat) (xs : List Int) (hla : la ≤ 1048576) (_ : ∀ n ∈ xs, (Lit.int .i64 n).wf = true) (lb : Nat) (ys : List Int) (hlb : lb ≤ 1048576) (_ : ∀ n ∈ ys, (Lit.int .i64 n).wf = true) (own : Int) (_ : (Lit.int .i64 own).wf = true) (other : Int) (_ : (Lit.int .i64 other).wf = true) :
    ∃ F : Bool, ∀ (a : Option Addr) (ca : Nat) (b : Option Addr) (cb : Nat) (w : World), SlV (Value.int .i64) w a la xs → SlV (Value.int .i64) w b lb ys →
      Calls Try.prog 29 #[.agg #[.slice a la ca, .slice b lb cb], .int .i64 own, .int .i64 other] w (RetV (.bool F) w) ∧ Calls Try.prog 31 #[.agg #[.slice a la ca, .slice b lb cb], .int .i64 own, .int .i64 other] w (RetV (.bool F) w) :=
  ⟨_, fun a ca b cb w h g => ⟨spValidP a la ca xs b lb cb ys own other w h g hla hlb, imValidP a la ca xs b lb cb ys own other w h g hla hlb⟩⟩
set_option maxHeartbeats 4000000 in
theorem fnExactValidPlayer (a00 : Option Addr) (l00 c00 : Nat) (x00 : List Int) (a01 : Option Addr) (l01 c01 : Nat) (x01 : List Int) (n1 : Int) (n2 : Int) (w : World) (hra00 : IsRow .i64 w a00 l00 c00 x00) (hra01 : IsRow .i64 w a01 l01 c01 x01) (hw1 : (Lit.int .i64 n1).wf = true) (hw2 : (Lit.int .i64 n2).wf = true) : Calls Try.prog 5 #[.agg #[.slice a00 l00 c00, .slice a01 l01 c01], .int .i64 n1, .int .i64 n2] w (RetD true w) := by
  obtain ⟨hsa00, hva00, hma00⟩ := hra00
  have HSa00 := hid hsa00
  have HVa00 := hid hva00
  clear hsa00 hva00
  obtain ⟨hsa01, hva01, hma01⟩ := hra01
  have HSa01 := hid hsa01
  have HVa01 := hid hva01
  clear hsa01 hva01
  have HW1 := hid hw1
  clear hw1
  have HW2 := hid hw2
  clear hw2
  go_enter Try.func5, Try.ntmps5
  go_wp2_with fail
  refine (szPAny a00 l00 c00 a01 l01 c01 1048576 _ (Nat.le_refl _) hma00 hma01).mono ?_
  rintro e w1 ⟨r, rfl, b1, (⟨rfl, h1⟩ | ⟨rfl, h1⟩)⟩
  · have bw1 : Below w.heap.size w w1 := below_to (by repeat (first | exact Below.refl _ _ | with_reducible assumption | refine Below.alloc ?_ (by simp <;> omega) _)) b1
    go_wp2_with fail
    go_ret
    exact ⟨rfl, bw1⟩
  have bw1 : Below w.heap.size w w1 := below_to (by repeat (first | exact Below.refl _ _ | with_reducible assumption | refine Below.alloc ?_ (by simp <;> omega) _)) b1
  have bx0 : Box w1 (w.heap.size) [.slice a00 l00 c00, .slice a01 l01 c01] := (show Box _ (w.heap.size) _ from by simpa using Box.new w [.slice a00 l00 c00, .slice a01 l01 c01] 33).below b1
  have hla00 : l00 ≤ 1048576 := by omega
  have hla01 : l01 ≤ 1048576 := by omega
  obtain ⟨m1, hm1⟩ : ∃ m, 1048576 - (l00 + l01) = m := ⟨_, rfl⟩
  have hmm1 : m1 ≤ 1048576 := by omega
  rw [hm1]
  clear b1 h1 hm1
  obtain ⟨F0, hboth⟩ := bothValidP l00 x00 hla00 HVa00.out l01 x01 hla01 HVa01.out n1 HW1.out n2 HW2.out
  have HBOTH := hid hboth
  clear hboth
  have hFF0 : (F0 != F0) = false := by simp
  have f0 := (bx0.2 0 _ rfl).1
  have f1 := (bx0.2 1 _ rfl).1
  go_upto_region 5 with (fail)
  go_cut [8] (fun sv8 wx => sv8 = .bool F0 ∧ Box wx (w.heap.size) [.slice a00 l00 c00, .slice a01 l01 c01] ∧ Below w.heap.size w wx)
  case first =>
    go_wp2_with fail
    refine (toP a00 l00 c00 x00 a01 l01 c01 x01 _ (HSa00.out.below bw1) (HSa01.out.below bw1) hla00 hla01).mono ?_
    rintro e wa ⟨Aa00, Aa01, rfl, sa00, sa01, ba⟩
    have bx0 := bx0.below ba
    have bwa : Below w.heap.size w wa := below_to bw1 ba
    clear f0 f1
    have f0 := (bx0.2 0 _ rfl).1
    have f1 := (bx0.2 1 _ rfl).1
    go_wp2_with fail
    refine (HBOTH.out _ _ _ _ _ sa00 sa01).1.mono ?_
    rintro e wb ⟨rfl, bb⟩
    have bx0 := bx0.below bb
    have bwb : Below w.heap.size w wb := below_to bwa bb
    go_wp2_with fail
    go_meet
    exact ⟨rfl, bx0, bwb⟩
  case rest =>
    obtain ⟨rfl, bx0, bc⟩ := hcut
    have f0 := (bx0.2 0 _ rfl).1
    have f1 := (bx0.2 1 _ rfl).1
    go_wp2_with fail
    refine (toP a00 l00 c00 x00 a01 l01 c01 x01 _ (HSa00.out.below bc) (HSa01.out.below bc) hla00 hla01).mono ?_
    rintro e wy0 ⟨Ba00, Ba01, rfl, ta00, ta01, b⟩
    clear f0 f1
    have bx0 := bx0.below b
    have by0 : Below w.heap.size w wy0 := below_to bc b
    clear b
    have hal : Below wy0.heap.size wy0 (wy0.alloc (.cells #[.slice Ba00 l00 l00, .slice Ba01 l01 l01] 36)) := Below.alloc (Below.refl _ _) (Nat.le_refl _) _
    have bx0 := bx0.below hal
    have ex0 : Box (wy0.alloc (.cells #[.slice Ba00 l00 l00, .slice Ba01 l01 l01] 36)) wy0.heap.size [.slice Ba00 l00 l00, .slice Ba01 l01 l01] := Box.new _ _ _
    have ta00 := ta00.below hal
    have ta01 := ta01.below hal
    have byl0 : Below w.heap.size w (wy0.alloc (.cells #[.slice Ba00 l00 l00, .slice Ba01 l01 l01] 36)) := below_to by0 hal
    clear hal
    go_wp2_with fail
    refine (HBOTH.out _ _ _ _ _ ta00 ta01).2.mono ?_
    rintro e wi ⟨rfl, b⟩
    have bx0 := bx0.below b
    have ex0 := ex0.below b
    have ta00 := ta00.below b
    have ta01 := ta01.below b
    have bi : Below w.heap.size w wi := below_to byl0 b
    clear b
    have f0 := (bx0.2 0 _ rfl).1
    have f1 := (bx0.2 1 _ rfl).1
    have g0 := (ex0.2 0 _ rfl).1
    have g1 := (ex0.2 1 _ rfl).1
    go_upto_region 10 with (fail)
    go_cut [34] (fun sv wx => sv = .bool false ∧ Box wx (w.heap.size) [.slice a00 l00 c00, .slice a01 l01 c01] ∧ Below w.heap.size w wx)
    case first =>
      go_region_with (first
        | (go_at_call 30
           refine (toP a00 l00 c00 x00 a01 l01 c01 x01 _ (HSa00.out.below bi.drew) (HSa01.out.below bi.drew) hla00 hla01).mono ?_
           rintro e we ⟨Ea00, Ea01, rfl, ua00, ua01, b⟩
           have bx0 := (Box.d1 bx0).below b
           have ex0 := (Box.d1 ex0).below b
           have ta00 := (ta00.below (Below.refl _ _).drew).below b
           have ta01 := (ta01.below (Below.refl _ _).drew).below b
           have be : Below w.heap.size w we := below_to bi.drew b
           have f0 := (bx0.2 0 _ rfl).1
           have f1 := (bx0.2 1 _ rfl).1
           have g0 := (ex0.2 0 _ rfl).1
           have g1 := (ex0.2 1 _ rfl).1)
        | (go_at_call 32
           refine (eqPSelf _ _ l00 _ _ x00 _ _ l01 _ _ x01 _ ta00 ua00 hla00 ta01 ua01 hla01).mono ?_
           rintro e wf ⟨rfl, b⟩
           have bx0 := bx0.below b
           have bf : Below w.heap.size w wf := below_to be b))
      all_goals (go_wp2_with fail; go_meet; exact ⟨rfl, bx0, bf⟩)
    case rest =>
    clear f0 f1
    clear g0 g1
    clear bx0 ex0 ta00 ta01
    obtain ⟨rfl, bx0, bk0⟩ := hcut
    go_wp2_with fail
    go_ret
    exact ⟨rfl, bk0⟩
end TryWalk
end Go.Proofs.Ytlbmmecjiopbbaa
