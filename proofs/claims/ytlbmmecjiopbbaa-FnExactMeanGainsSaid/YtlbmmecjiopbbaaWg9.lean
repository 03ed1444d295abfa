/- Games: the law on equal games. No condition. -/
import Derived.Test.YtlbmmecjiopbbaaWg8
namespace Go.Proofs.Ytlbmmecjiopbbaa
open Go.RowKit Flo Sl
set_option linter.unusedVariables false
namespace TryWalk
set_option maxHeartbeats 400000 in
theorem eqL (a b : Option Addr) (la lb ca cb : Nat) (xs ys : List Int) (w : World) (h : SlV (Value.int .i64) w a la xs) (g : SlV (Value.int .i64) w b lb ys) (hla : la ≤ 1048576) (hlb : lb ≤ 1048576) : Calls Try.prog 121 #[.slice a la ca, .slice b lb cb] w fun e w' => e = .returned (.bool (decide (xs = ys))) ∧ ∃ n, w' = w.drewN n := by
  by_cases hl : la = lb
  · subst hl
    have H := hid h
    have G := hid g
    clear h g
    have hx := hid (same_iff (xs := xs) (ys := ys) (H.out.1.trans G.out.1.symm))
    obtain ⟨d, hd⟩ : ∃ d, d = decide (xs = ys) := ⟨_, rfl⟩
    rw [← hd]
    have HD := hid hd
    clear hd
    go_enter Try.func121, Try.ntmps121
    go_wp2
    go_loopw [5] (fun i wr => ∃ k n : Nat, k ≤ la ∧ i = .int .i64 k ∧ wr = w.drewN n ∧ ∀ j, j < k → xs.getD j 0 = ys.getD j 0) (fun i _ => la - (intOf i).toNat)
    case atStart => exact ⟨0, 0, Nat.zero_le _, rfl, rfl, fun _ h => absurd h (Nat.not_lt_zero _)⟩
    case round =>
      obtain ⟨k, n, hk, rfl, rfl, hall⟩ := hrel
      have HA := hid hall
      clear hall
      by_cases hlt : k < la
      · obtain ⟨b1, off1, rfl, hb1, hc1⟩ := H.out.2 (by omega)
        obtain ⟨b2, off2, rfl, hb2, hc2⟩ := G.out.2 (by omega)
        have hd1 : w.cell? ⟨b1, off1 + k, none⟩ = some (.int .i64 (xs.getD k 0)) := hc1 k hlt
        have hd2 : w.cell? ⟨b2, off2 + k, none⟩ = some (.int .i64 (ys.getD k 0)) := hc2 k hlt
        clear hc1 hc2
        by_cases hxy : xs.getD k 0 = ys.getD k 0
        · have HX := hid hxy
          rw [← hxy] at hd2
          generalize xs.getD k 0 = x at hd1 hd2
          clear hxy
          go_wp2_with fail
          go_region
          all_goals (go_wp2_with fail; exact ⟨⟨k + 1, _, by omega, by go_num, rfl, fun j hj => by
            rcases Nat.lt_succ_iff_lt_or_eq.mp hj with h | h
            · exact HA.out j h
            · subst h; exact HX.out⟩, by simp [intOf]; omega⟩)
        · obtain rfl : d = false := by
            rw [HD.out]; simp only [decide_eq_false_iff_not]; intro h; exact hxy (by rw [h])
          have hbb : (xs.getD k 0 != ys.getD k 0) = true := by simpa using hxy
          generalize xs.getD k 0 = x at *
          generalize ys.getD k 0 = y at *
          go_wp2_with fail
          go_region
          all_goals (go_wp2_with fail; go_ret; exact ⟨rfl, _, rfl⟩)
      · obtain rfl : k = la := by omega
        obtain rfl : d = true := by
          rw [HD.out]; simp only [decide_eq_true_eq]; exact hx.out.mpr (fun j hj => HA.out j (by rw [← H.out.1]; exact hj))
        go_wp2
        go_ret
        exact ⟨rfl, _, rfl⟩
  · have hne : decide (xs = ys) = false := by
      simp only [decide_eq_false_iff_not]; intro e; subst e; exact hl (h.1.symm.trans g.1)
    rw [hne]
    have hi : ((la : Int) != (lb : Int)) = true := by simp; omega
    have hi2 : ((la : Int) == (lb : Int)) = false := by simp; omega
    go_enter Try.func121, Try.ntmps121
    go_wp2
    go_ret
    exact ⟨rfl, 0, rfl⟩

def sameG (r r' c c' : Int) (xs xs' ys ys' : List Int) : Bool := decide (r = r') && decide (c = c') && decide (xs = xs') && decide (ys = ys')
set_option maxHeartbeats 2000000 in
theorem imSameG (r c : Int) (a : Option Addr) (la ca : Nat) (xs : List Int) (b : Option Addr) (lb cb : Nat) (ys : List Int) (r' c' : Int) (a' : Option Addr) (la' ca' : Nat) (xs' : List Int) (b' : Option Addr) (lb' cb' : Nat) (ys' : List Int) (w : World) (h : SlV (Value.int .i64) w a la xs) (g : SlV (Value.int .i64) w b lb ys) (h' : SlV (Value.int .i64) w a' la' xs') (g' : SlV (Value.int .i64) w b' lb' ys') (hla : la ≤ 1048576) (hlb : lb ≤ 1048576) (hla' : la' ≤ 1048576) (hlb' : lb' ≤ 1048576) : Calls Try.prog 36 #[.agg #[.int .i64 r, .int .i64 c, .slice a la ca, .slice b lb cb], .agg #[.int .i64 r', .int .i64 c', .slice a' la' ca', .slice b' lb' cb']] w (RetD (sameG r r' c c' xs xs' ys ys') w) := by
  have bw : Below w.heap.size w ((w.alloc (.cells #[.int .i64 r, .int .i64 c, .slice a la ca, .slice b lb cb] 44)).alloc (.cells #[.int .i64 r', .int .i64 c', .slice a' la' ca', .slice b' lb' cb'] 44)) := by repeat (first | exact Below.refl _ _ | refine Below.alloc ?_ (by simp <;> omega) _)
  obtain ⟨d, hd⟩ : ∃ d, sameG r r' c c' xs xs' ys ys' = d := ⟨_, rfl⟩
  rw [hd]
  obtain ⟨dx, hdx⟩ : ∃ d, decide (xs = xs') = d := ⟨_, rfl⟩
  obtain ⟨dy, hdy⟩ : ∃ d, decide (ys = ys') = d := ⟨_, rfl⟩
  have HDX := hid hdx
  have HDY := hid hdy
  have HD := hid hd
  have HA := hid h
  have HB := hid g
  have HA' := hid h'
  have HB' := hid g'
  clear hd hdx hdy h g h' g'
  by_cases hr : r = r'
  · subst hr
    by_cases hc : c = c'
    · subst hc
      have HE : Hid (d = (dx && dy)) := hid (by rw [← HD.out, sameG, HDX.out, HDY.out]; simp)
      go_enter Try.func36, Try.ntmps36
      go_wp2_with fail
      refine (eqP _ _ _ _ _ _ xs xs' _ (HA.out.below bw) (HA'.out.below bw) hla hla').mono ?_
      rintro e w1 ⟨rfl, n, rfl⟩
      rw [HDX.out]
      cases dx with
      | false =>
        obtain rfl : d = false := by rw [HE.out]; rfl
        go_wp2_with fail
        go_ret
        exact ⟨rfl, below_drewN bw n⟩
      | true =>
        go_wp2_with fail
        refine (eqP _ _ _ _ _ _ ys ys' _ ((HB.out.below bw).drewN n) ((HB'.out.below bw).drewN n) hlb hlb').mono ?_
        rintro e w1 ⟨rfl, n2, rfl⟩
        rw [HDY.out]
        obtain rfl : d = dy := by rw [HE.out]; rfl
        go_wp2_with fail
        go_ret
        exact ⟨rfl, below_drewN bw (n + n2)⟩
    · obtain rfl : d = false := by rw [← HD.out, sameG]; simp [hc]
      have hcb : (c == c') = false := by simpa using hc
      go_enter Try.func36, Try.ntmps36
      go_wp2_with fail
      go_ret
      exact ⟨rfl, bw⟩
  · obtain rfl : d = false := by rw [← HD.out, sameG]; simp [hr]
    have hrb : (r == r') = false := by simpa using hr
    go_enter Try.func36, Try.ntmps36
    go_wp2_with fail
    go_ret
    exact ⟨rfl, bw⟩
set_option maxHeartbeats 4000000 in
theorem l02Same (r c : Int) (a : Option Addr) (la ca : Nat) (xs : List Int) (b : Option Addr) (lb cb : Nat) (ys : List Int) (r' c' : Int) (a' : Option Addr) (la' ca' : Nat) (xs' : List Int) (b' : Option Addr) (lb' cb' : Nat) (ys' : List Int) (k k' : Nat) (w : World) (hbox : Box w k [.int .i64 r, .int .i64 c, .slice a la ca, .slice b lb cb]) (hbox' : Box w k' [.int .i64 r', .int .i64 c', .slice a' la' ca', .slice b' lb' cb']) (h : SlV (Value.int .i64) w a la xs) (g : SlV (Value.int .i64) w b lb ys) (h' : SlV (Value.int .i64) w a' la' xs') (g' : SlV (Value.int .i64) w b' lb' ys') (hla : la ≤ 1048576) (hlb : lb ≤ 1048576) (hla' : la' ≤ 1048576) (hlb' : lb' ≤ 1048576) : Calls Try.prog 84 #[.pointer (some ⟨k, 0, none⟩), .pointer (some ⟨k', 0, none⟩)] w (RetB (sameG r r' c c' xs xs' ys ys') w) := by
  have f0 := (hbox.2 0 _ rfl).1
  have f1 := (hbox.2 1 _ rfl).1
  have f2 := (hbox.2 2 _ rfl).1
  have f3 := (hbox.2 3 _ rfl).1
  have g0 := (hbox'.2 0 _ rfl).1
  have g1 := (hbox'.2 1 _ rfl).1
  have g2 := (hbox'.2 2 _ rfl).1
  have g3 := (hbox'.2 3 _ rfl).1
  clear hbox hbox'
  obtain ⟨d, hd⟩ : ∃ d, sameG r r' c c' xs xs' ys ys' = d := ⟨_, rfl⟩
  rw [hd]
  obtain ⟨dx, hdx⟩ : ∃ d, decide (xs = xs') = d := ⟨_, rfl⟩
  obtain ⟨dy, hdy⟩ : ∃ d, decide (ys = ys') = d := ⟨_, rfl⟩
  have HDX := hid hdx
  have HDY := hid hdy
  have HD := hid hd
  have HA := hid h
  have HB := hid g
  have HA' := hid h'
  have HB' := hid g'
  clear hd hdx hdy h g h' g'
  have H1 : ∀ n, Calls Try.prog 121 #[.slice a la ca, .slice a' la' ca'] (w.drewN n) (fun e w' => e = .returned (.bool dx) ∧ ∃ m, w' = (w.drewN n).drewN m) := fun n => by rw [← HDX.out]; exact eqL _ _ _ _ _ _ xs xs' _ (HA.out.drewN n) (HA'.out.drewN n) hla hla'
  have H2 : ∀ n, Calls Try.prog 121 #[.slice b lb cb, .slice b' lb' cb'] (w.drewN n) (fun e w' => e = .returned (.bool dy) ∧ ∃ m, w' = (w.drewN n).drewN m) := fun n => by rw [← HDY.out]; exact eqL _ _ _ _ _ _ ys ys' _ (HB.out.drewN n) (HB'.out.drewN n) hlb hlb'
  by_cases hr : r = r'
  · subst hr
    by_cases hc : c = c'
    · subst hc
      have HE : Hid (d = (dx && dy)) := hid (by rw [← HD.out, sameG, HDX.out, HDY.out]; simp)
      cases dx with
      | false =>
        obtain rfl : d = false := by rw [HE.out]; rfl
        go_enter Try.func84, Try.ntmps84
        go_wp2_with fail
        go_quiet ((go_at_call 121; with_reducible exact Calls.quiet_of (H1 _)))
        go_wp2_with fail
        go_ret
        exact ⟨rfl, _, rfl⟩
      | true =>
        obtain rfl : d = dy := by rw [HE.out]; rfl
        go_enter Try.func84, Try.ntmps84
        go_wp2_with fail
        go_quiet (first | (go_at_call 121; with_reducible exact Calls.quiet_of (H1 _)) | (go_at_call 121; with_reducible exact Calls.quiet_of (H2 _)))
        go_wp2_with fail
        go_ret
        exact ⟨rfl, _, rfl⟩
    · obtain rfl : d = false := by rw [← HD.out, sameG]; simp [hc]
      have hcb : (c == c') = false := by simpa using hc
      go_enter Try.func84, Try.ntmps84
      go_wp2_with fail
      go_quiet (fail)
      go_wp2_with fail
      go_ret
      exact ⟨rfl, _, rfl⟩
  · obtain rfl : d = false := by rw [← HD.out, sameG]; simp [hr]
    have hrb : (r == r') = false := by simpa using hr
    go_enter Try.func84, Try.ntmps84
    go_wp2_with fail
    go_quiet (fail)
    go_wp2_with fail
    go_ret
    exact ⟨rfl, _, rfl⟩
theorem spSameG (r c : Int) (a : Option Addr) (la ca : Nat) (xs : List Int) (b : Option Addr) (lb cb : Nat) (ys : List Int) (r' c' : Int) (a' : Option Addr) (la' ca' : Nat) (xs' : List Int) (b' : Option Addr) (lb' cb' : Nat) (ys' : List Int) (w : World) (h : SlV (Value.int .i64) w a la xs) (g : SlV (Value.int .i64) w b lb ys) (h' : SlV (Value.int .i64) w a' la' xs') (g' : SlV (Value.int .i64) w b' lb' ys') (hla : la ≤ 1048576) (hlb : lb ≤ 1048576) (hla' : la' ≤ 1048576) (hlb' : lb' ≤ 1048576) : Calls Try.prog 34 #[.agg #[.int .i64 r, .int .i64 c, .slice a la ca, .slice b lb cb], .agg #[.int .i64 r', .int .i64 c', .slice a' la' ca', .slice b' lb' cb']] w (RetD (sameG r r' c c' xs xs' ys ys') w) := by
  have bw : Below w.heap.size w ((w.alloc (.cells #[.int .i64 r, .int .i64 c, .slice a la ca, .slice b lb cb] 44)).alloc (.cells #[.int .i64 r', .int .i64 c', .slice a' la' ca', .slice b' lb' cb'] 44)) := by repeat (first | exact Below.refl _ _ | refine Below.alloc ?_ (by simp <;> omega) _)
  have pb : Box ((w.alloc (.cells #[.int .i64 r, .int .i64 c, .slice a la ca, .slice b lb cb] 44)).alloc (.cells #[.int .i64 r', .int .i64 c', .slice a' la' ca', .slice b' lb' cb'] 44)) w.heap.size [.int .i64 r, .int .i64 c, .slice a la ca, .slice b lb cb] := (Box.new _ _ _).al _
  have rb : Box ((w.alloc (.cells #[.int .i64 r, .int .i64 c, .slice a la ca, .slice b lb cb] 44)).alloc (.cells #[.int .i64 r', .int .i64 c', .slice a' la' ca', .slice b' lb' cb'] 44)) (w.heap.size + 1) [.int .i64 r', .int .i64 c', .slice a' la' ca', .slice b' lb' cb'] := by
    have := Box.new (w.alloc (.cells #[.int .i64 r, .int .i64 c, .slice a la ca, .slice b lb cb] 44)) [.int .i64 r', .int .i64 c', .slice a' la' ca', .slice b' lb' cb'] 44
    simpa using this
  go_enter Try.func34, Try.ntmps34
  go_wp2_with fail
  refine (l02Same r c a la ca xs b lb cb ys r' c' a' la' ca' xs' b' lb' cb' ys' _ _ _ pb rb (h.below bw) (g.below bw) (h'.below bw) (g'.below bw) hla hlb hla' hlb').mono ?_
  rintro e w1 ⟨rfl, n, rfl⟩
  go_wp2_with fail
  go_ret
  exact ⟨rfl, below_drewN bw n⟩
theorem bothSameG (r : Int) (c : Int) (_ : (Lit.int .i64 r).wf = true) (_ : (Lit.int .i64 c).wf = true) (la : Nat) (xs : List Int) (hla : la ≤ 1048576) (_ : ∀ n ∈ xs, (Lit.int .i64 n).wf = true) (lb : Nat) (ys : List Int) (hlb : lb ≤ 1048576) (_ : ∀ n ∈ ys, (Lit.int .i64 n).wf = true) (r' : Int) (c' : Int) (_ : (Lit.int .i64 r').wf = true) (_ : (Lit.int .i64 c').wf = true) (la' : Nat) (xs' : List Int) (hla' : la' ≤ 1048576) (_ : ∀ n ∈ xs', (Lit.int .i64 n).wf = true) (lb' : Nat) (ys' : List Int) (hlb' : lb' ≤ 1048576) (_ : ∀ n ∈ ys', (Lit.int .i64 n).wf = true) :
    ∃ F : Bool, ∀ (a : Option Addr) (ca : Nat) (b : Option Addr) (cb : Nat) (a' : Option Addr) (ca' : Nat) (b' : Option Addr) (cb' : Nat) (w : World), SlV (Value.int .i64) w a la xs → SlV (Value.int .i64) w b lb ys → SlV (Value.int .i64) w a' la' xs' → SlV (Value.int .i64) w b' lb' ys' →
      Calls Try.prog 34 #[.agg #[.int .i64 r, .int .i64 c, .slice a la ca, .slice b lb cb], .agg #[.int .i64 r', .int .i64 c', .slice a' la' ca', .slice b' lb' cb']] w (RetV (.bool F) w) ∧ Calls Try.prog 36 #[.agg #[.int .i64 r, .int .i64 c, .slice a la ca, .slice b lb cb], .agg #[.int .i64 r', .int .i64 c', .slice a' la' ca', .slice b' lb' cb']] w (RetV (.bool F) w) :=
  ⟨_, fun a ca b cb a' ca' b' cb' w h g h' g' => ⟨spSameG r c a la ca xs b lb cb ys r' c' a' la' ca' xs' b' lb' cb' ys' w h g h' g' hla hlb hla' hlb', imSameG r c a la ca xs b lb cb ys r' c' a' la' ca' xs' b' lb' cb' ys' w h g h' g' hla hlb hla' hlb'⟩⟩
set_option maxHeartbeats 4000000 in
theorem fnExactSameGame (p00 : Int) (p01 : Int) (a00 : Option Addr) (l00 c00 : Nat) (x00 : List Int) (a01 : Option Addr) (l01 c01 : Nat) (x01 : List Int) (p10 : Int) (p11 : Int) (a10 : Option Addr) (l10 c10 : Nat) (x10 : List Int) (a11 : Option Addr) (l11 c11 : Nat) (x11 : List Int) (w : World) (hwp00 : (Lit.int .i64 p00).wf = true) (hwp01 : (Lit.int .i64 p01).wf = true) (hra00 : IsRow .i64 w a00 l00 c00 x00) (hra01 : IsRow .i64 w a01 l01 c01 x01) (hwp10 : (Lit.int .i64 p10).wf = true) (hwp11 : (Lit.int .i64 p11).wf = true) (hra10 : IsRow .i64 w a10 l10 c10 x10) (hra11 : IsRow .i64 w a11 l11 c11 x11) : Calls Try.prog 6 #[.agg #[.int .i64 p00, .int .i64 p01, .slice a00 l00 c00, .slice a01 l01 c01], .agg #[.int .i64 p10, .int .i64 p11, .slice a10 l10 c10, .slice a11 l11 c11]] w (RetD true w) := by
  obtain ⟨hsa00, hva00, hma00⟩ := hra00
  have HSa00 := hid hsa00
  have HVa00 := hid hva00
  clear hsa00 hva00
  obtain ⟨hsa01, hva01, hma01⟩ := hra01
  have HSa01 := hid hsa01
  have HVa01 := hid hva01
  clear hsa01 hva01
  obtain ⟨hsa10, hva10, hma10⟩ := hra10
  have HSa10 := hid hsa10
  have HVa10 := hid hva10
  clear hsa10 hva10
  obtain ⟨hsa11, hva11, hma11⟩ := hra11
  have HSa11 := hid hsa11
  have HVa11 := hid hva11
  clear hsa11 hva11
  have HWp00 := hid hwp00
  clear hwp00
  have HWp01 := hid hwp01
  clear hwp01
  have HWp10 := hid hwp10
  clear hwp10
  have HWp11 := hid hwp11
  clear hwp11
  go_enter Try.func6, Try.ntmps6
  go_wp2_with fail
  refine (szGAny p00 p01 a00 l00 c00 a01 l01 c01 1048576 _ (Nat.le_refl _) hma00 hma01).mono ?_
  rintro e w1 ⟨r, rfl, b1, (⟨rfl, h1⟩ | ⟨rfl, h1⟩)⟩
  · have bw1 : Below w.heap.size w w1 := below_to (by repeat (first | exact Below.refl _ _ | with_reducible assumption | refine Below.alloc ?_ (by simp <;> omega) _)) b1
    go_wp2_with fail
    go_ret
    exact ⟨rfl, bw1⟩
  have bw1 : Below w.heap.size w w1 := below_to (by repeat (first | exact Below.refl _ _ | with_reducible assumption | refine Below.alloc ?_ (by simp <;> omega) _)) b1
  have bx0 : Box w1 (w.heap.size) [.int .i64 p00, .int .i64 p01, .slice a00 l00 c00, .slice a01 l01 c01] := ((show Box _ (w.heap.size) _ from by simpa using Box.new w [.int .i64 p00, .int .i64 p01, .slice a00 l00 c00, .slice a01 l01 c01] 41).al _).below b1
  have bx1 : Box w1 (w.heap.size + 1) [.int .i64 p10, .int .i64 p11, .slice a10 l10 c10, .slice a11 l11 c11] := (show Box _ (w.heap.size + 1) _ from by simpa using Box.new (w.alloc (.cells #[.int .i64 p00, .int .i64 p01, .slice a00 l00 c00, .slice a01 l01 c01] 41)) [.int .i64 p10, .int .i64 p11, .slice a10 l10 c10, .slice a11 l11 c11] 41).below b1
  have hla00 : l00 ≤ 1048576 := by omega
  have hla01 : l01 ≤ 1048576 := by omega
  obtain ⟨m1, hm1⟩ : ∃ m, 1048576 - (l00 + l01) = m := ⟨_, rfl⟩
  have hmm1 : m1 ≤ 1048576 := by omega
  rw [hm1]
  clear b1 h1 hm1
  have f0 := (bx0.2 0 _ rfl).1
  have f1 := (bx0.2 1 _ rfl).1
  have f2 := (bx0.2 2 _ rfl).1
  have f3 := (bx0.2 3 _ rfl).1
  have f4 := (bx1.2 0 _ rfl).1
  have f5 := (bx1.2 1 _ rfl).1
  have f6 := (bx1.2 2 _ rfl).1
  have f7 := (bx1.2 3 _ rfl).1
  go_wp2_with fail
  refine (szGAny p10 p11 a10 l10 c10 a11 l11 c11 m1 _ hmm1 hma10 hma11).mono ?_
  rintro e w2 ⟨r, rfl, b2, (⟨rfl, h2⟩ | ⟨rfl, h2⟩)⟩
  · have bw2 : Below w.heap.size w w2 := below_to bw1 b2
    go_wp2_with fail
    go_ret
    exact ⟨rfl, bw2⟩
  clear f0 f1 f2 f3 f4 f5 f6 f7
  have bx0 := bx0.below b2
  have bx1 := bx1.below b2
  have bw2 : Below w.heap.size w w2 := below_to bw1 b2
  have hla10 : l10 ≤ 1048576 := by omega
  have hla11 : l11 ≤ 1048576 := by omega
  obtain ⟨m2, hm2⟩ : ∃ m, m1 - (l10 + l11) = m := ⟨_, rfl⟩
  have hmm2 : m2 ≤ 1048576 := by omega
  rw [hm2]
  clear b2 h2 hm2
  obtain ⟨F0, hboth⟩ := bothSameG p00 p01 HWp00.out HWp01.out l00 x00 hla00 HVa00.out l01 x01 hla01 HVa01.out p10 p11 HWp10.out HWp11.out l10 x10 hla10 HVa10.out l11 x11 hla11 HVa11.out
  have HBOTH := hid hboth
  clear hboth
  have hFF0 : (F0 != F0) = false := by simp
  have f0 := (bx0.2 0 _ rfl).1
  have f1 := (bx0.2 1 _ rfl).1
  have f2 := (bx0.2 2 _ rfl).1
  have f3 := (bx0.2 3 _ rfl).1
  have f4 := (bx1.2 0 _ rfl).1
  have f5 := (bx1.2 1 _ rfl).1
  have f6 := (bx1.2 2 _ rfl).1
  have f7 := (bx1.2 3 _ rfl).1
  go_upto_region 8 with (fail)
  go_cut [6] (fun sv6 wx => sv6 = .bool F0 ∧ Box wx (w.heap.size) [.int .i64 p00, .int .i64 p01, .slice a00 l00 c00, .slice a01 l01 c01] ∧ Box wx (w.heap.size + 1) [.int .i64 p10, .int .i64 p11, .slice a10 l10 c10, .slice a11 l11 c11] ∧ Below w.heap.size w wx)
  case first =>
    go_region_with (first
      | (go_at_call 35
         with_reducible refine (toG p10 p11 a10 l10 c10 x10 a11 l11 c11 x11 _ (HSa10.out.below bq0) (HSa11.out.below bq0) hla10 hla11).mono ?_
         rintro e wq01 ⟨Aa10, Aa11, rfl, sq01a10, sq01a11, b⟩
         have bxq01_0 := bxq0_0.below b
         have bxq01_1 := bxq0_1.below b
         have bq01 : Below w.heap.size w wq01 := below_to bq0 b
         have sq01a00 := sq0a00.below b
         have sq01a01 := sq0a01.below b
         have f0 := (bxq01_0.2 0 _ rfl).1
         have f1 := (bxq01_0.2 1 _ rfl).1
         have f2 := (bxq01_0.2 2 _ rfl).1
         have f3 := (bxq01_0.2 3 _ rfl).1
         have f4 := (bxq01_1.2 0 _ rfl).1
         have f5 := (bxq01_1.2 1 _ rfl).1
         have f6 := (bxq01_1.2 2 _ rfl).1
         have f7 := (bxq01_1.2 3 _ rfl).1)
      | (go_at_call 35
         with_reducible refine (toG p00 p01 a00 l00 c00 x00 a01 l01 c01 x01 _ (HSa00.out.below bq1) (HSa01.out.below bq1) hla00 hla01).mono ?_
         rintro e wq01 ⟨Aa00, Aa01, rfl, sq01a00, sq01a01, b⟩
         have bxq01_0 := bxq1_0.below b
         have bxq01_1 := bxq1_1.below b
         have bq01 : Below w.heap.size w wq01 := below_to bq1 b
         have sq01a10 := sq1a10.below b
         have sq01a11 := sq1a11.below b
         have f0 := (bxq01_0.2 0 _ rfl).1
         have f1 := (bxq01_0.2 1 _ rfl).1
         have f2 := (bxq01_0.2 2 _ rfl).1
         have f3 := (bxq01_0.2 3 _ rfl).1
         have f4 := (bxq01_1.2 0 _ rfl).1
         have f5 := (bxq01_1.2 1 _ rfl).1
         have f6 := (bxq01_1.2 2 _ rfl).1
         have f7 := (bxq01_1.2 3 _ rfl).1)
      | (go_at_call 35
         with_reducible refine (toG p00 p01 a00 l00 c00 x00 a01 l01 c01 x01 _ (HSa00.out.below bw2.drew) (HSa01.out.below bw2.drew) hla00 hla01).mono ?_
         rintro e wq0 ⟨Aa00, Aa01, rfl, sq0a00, sq0a01, b⟩
         have bxq0_0 := (Box.d1 bx0).below b
         have bxq0_1 := (Box.d1 bx1).below b
         have bq0 : Below w.heap.size w wq0 := below_to bw2.drew b
         have f0 := (bxq0_0.2 0 _ rfl).1
         have f1 := (bxq0_0.2 1 _ rfl).1
         have f2 := (bxq0_0.2 2 _ rfl).1
         have f3 := (bxq0_0.2 3 _ rfl).1
         have f4 := (bxq0_1.2 0 _ rfl).1
         have f5 := (bxq0_1.2 1 _ rfl).1
         have f6 := (bxq0_1.2 2 _ rfl).1
         have f7 := (bxq0_1.2 3 _ rfl).1)
      | (go_at_call 35
         with_reducible refine (toG p10 p11 a10 l10 c10 x10 a11 l11 c11 x11 _ (HSa10.out.below bw2.drew) (HSa11.out.below bw2.drew) hla10 hla11).mono ?_
         rintro e wq1 ⟨Aa10, Aa11, rfl, sq1a10, sq1a11, b⟩
         have bxq1_0 := (Box.d1 bx0).below b
         have bxq1_1 := (Box.d1 bx1).below b
         have bq1 : Below w.heap.size w wq1 := below_to bw2.drew b
         have f0 := (bxq1_0.2 0 _ rfl).1
         have f1 := (bxq1_0.2 1 _ rfl).1
         have f2 := (bxq1_0.2 2 _ rfl).1
         have f3 := (bxq1_0.2 3 _ rfl).1
         have f4 := (bxq1_1.2 0 _ rfl).1
         have f5 := (bxq1_1.2 1 _ rfl).1
         have f6 := (bxq1_1.2 2 _ rfl).1
         have f7 := (bxq1_1.2 3 _ rfl).1)
      | (go_at_call 34
         refine (HBOTH.out _ _ _ _ _ _ _ _ _ sq01a00 sq01a01 sq01a10 sq01a11).1.mono ?_
         rintro e wz ⟨rfl, b⟩
         have bz0 := bxq01_0.below b
         have bz1 := bxq01_1.below b
         have bwz : Below w.heap.size w wz := below_to bq01 b))
    all_goals (go_wp2_with fail; go_meet; exact ⟨rfl, bz0, bz1, bwz⟩)
  case rest =>
    obtain ⟨rfl, bx0, bx1, bc⟩ := hcut
    have f0 := (bx0.2 0 _ rfl).1
    have f1 := (bx0.2 1 _ rfl).1
    have f2 := (bx0.2 2 _ rfl).1
    have f3 := (bx0.2 3 _ rfl).1
    have f4 := (bx1.2 0 _ rfl).1
    have f5 := (bx1.2 1 _ rfl).1
    have f6 := (bx1.2 2 _ rfl).1
    have f7 := (bx1.2 3 _ rfl).1
    go_wp2_with fail
    refine (toG p00 p01 a00 l00 c00 x00 a01 l01 c01 x01 _ (HSa00.out.below bc) (HSa01.out.below bc) hla00 hla01).mono ?_
    rintro e wy0 ⟨Ba00, Ba01, rfl, ta00, ta01, b⟩
    clear f0 f1 f2 f3 f4 f5 f6 f7
    have bx0 := bx0.below b
    have bx1 := bx1.below b
    have by0 : Below w.heap.size w wy0 := below_to bc b
    clear b
    have hal : Below wy0.heap.size wy0 (wy0.alloc (.cells #[.int .i64 p00, .int .i64 p01, .slice Ba00 l00 l00, .slice Ba01 l01 l01] 44)) := Below.alloc (Below.refl _ _) (Nat.le_refl _) _
    have bx0 := bx0.below hal
    have bx1 := bx1.below hal
    have ex0 : Box (wy0.alloc (.cells #[.int .i64 p00, .int .i64 p01, .slice Ba00 l00 l00, .slice Ba01 l01 l01] 44)) wy0.heap.size [.int .i64 p00, .int .i64 p01, .slice Ba00 l00 l00, .slice Ba01 l01 l01] := Box.new _ _ _
    have ta00 := ta00.below hal
    have ta01 := ta01.below hal
    have byl0 : Below w.heap.size w (wy0.alloc (.cells #[.int .i64 p00, .int .i64 p01, .slice Ba00 l00 l00, .slice Ba01 l01 l01] 44)) := below_to by0 hal
    clear hal
    have f0 := (bx0.2 0 _ rfl).1
    have f1 := (bx0.2 1 _ rfl).1
    have f2 := (bx0.2 2 _ rfl).1
    have f3 := (bx0.2 3 _ rfl).1
    have f4 := (bx1.2 0 _ rfl).1
    have f5 := (bx1.2 1 _ rfl).1
    have f6 := (bx1.2 2 _ rfl).1
    have f7 := (bx1.2 3 _ rfl).1
    go_wp2_with fail
    refine (toG p10 p11 a10 l10 c10 x10 a11 l11 c11 x11 _ (HSa10.out.below byl0) (HSa11.out.below byl0) hla10 hla11).mono ?_
    rintro e wy1 ⟨Ba10, Ba11, rfl, ta10, ta11, b⟩
    clear f0 f1 f2 f3 f4 f5 f6 f7
    have bx0 := bx0.below b
    have bx1 := bx1.below b
    have ex0 := ex0.below b
    have ta00 := ta00.below b
    have ta01 := ta01.below b
    have by1 : Below w.heap.size w wy1 := below_to byl0 b
    clear b
    have hal : Below wy1.heap.size wy1 (wy1.alloc (.cells #[.int .i64 p10, .int .i64 p11, .slice Ba10 l10 l10, .slice Ba11 l11 l11] 44)) := Below.alloc (Below.refl _ _) (Nat.le_refl _) _
    have bx0 := bx0.below hal
    have bx1 := bx1.below hal
    have ex0 := ex0.below hal
    have ex1 : Box (wy1.alloc (.cells #[.int .i64 p10, .int .i64 p11, .slice Ba10 l10 l10, .slice Ba11 l11 l11] 44)) wy1.heap.size [.int .i64 p10, .int .i64 p11, .slice Ba10 l10 l10, .slice Ba11 l11 l11] := Box.new _ _ _
    have ta00 := ta00.below hal
    have ta01 := ta01.below hal
    have ta10 := ta10.below hal
    have ta11 := ta11.below hal
    have byl1 : Below w.heap.size w (wy1.alloc (.cells #[.int .i64 p10, .int .i64 p11, .slice Ba10 l10 l10, .slice Ba11 l11 l11] 44)) := below_to by1 hal
    clear hal
    have g0 := (ex0.2 0 _ rfl).1
    have g1 := (ex0.2 1 _ rfl).1
    have g2 := (ex0.2 2 _ rfl).1
    have g3 := (ex0.2 3 _ rfl).1
    have g4 := (ex1.2 0 _ rfl).1
    have g5 := (ex1.2 1 _ rfl).1
    have g6 := (ex1.2 2 _ rfl).1
    have g7 := (ex1.2 3 _ rfl).1
    go_wp2_with fail
    refine (HBOTH.out _ _ _ _ _ _ _ _ _ ta00 ta01 ta10 ta11).2.mono ?_
    rintro e wi ⟨rfl, b⟩
    clear g0 g1 g2 g3 g4 g5 g6 g7
    have bx0 := bx0.below b
    have ex0 := ex0.below b
    have bx1 := bx1.below b
    have ex1 := ex1.below b
    have ta00 := ta00.below b
    have ta01 := ta01.below b
    have ta10 := ta10.below b
    have ta11 := ta11.below b
    have bi : Below w.heap.size w wi := below_to byl1 b
    clear b
    have f0 := (bx0.2 0 _ rfl).1
    have f1 := (bx0.2 1 _ rfl).1
    have f2 := (bx0.2 2 _ rfl).1
    have f3 := (bx0.2 3 _ rfl).1
    have f4 := (bx1.2 0 _ rfl).1
    have f5 := (bx1.2 1 _ rfl).1
    have f6 := (bx1.2 2 _ rfl).1
    have f7 := (bx1.2 3 _ rfl).1
    have g0 := (ex0.2 0 _ rfl).1
    have g1 := (ex0.2 1 _ rfl).1
    have g2 := (ex0.2 2 _ rfl).1
    have g3 := (ex0.2 3 _ rfl).1
    have g4 := (ex1.2 0 _ rfl).1
    have g5 := (ex1.2 1 _ rfl).1
    have g6 := (ex1.2 2 _ rfl).1
    have g7 := (ex1.2 3 _ rfl).1
    go_upto_region 14 with (fail)
    go_cut [39] (fun sv wx => sv = .bool false ∧ Box wx (w.heap.size) [.int .i64 p00, .int .i64 p01, .slice a00 l00 c00, .slice a01 l01 c01] ∧ Box wx (w.heap.size + 1) [.int .i64 p10, .int .i64 p11, .slice a10 l10 c10, .slice a11 l11 c11] ∧ Box wx wy1.heap.size [.int .i64 p10, .int .i64 p11, .slice Ba10 l10 l10, .slice Ba11 l11 l11] ∧ SlV (Value.int .i64) wx Ba10 l10 x10 ∧ SlV (Value.int .i64) wx Ba11 l11 x11 ∧ Below w.heap.size w wx)
    case first =>
      go_region_with (first
        | (go_at_call 35
           refine (toG p00 p01 a00 l00 c00 x00 a01 l01 c01 x01 _ (HSa00.out.below bi.drew) (HSa01.out.below bi.drew) hla00 hla01).mono ?_
           rintro e we ⟨Ea00, Ea01, rfl, ua00, ua01, b⟩
           have bx0 := (Box.d1 bx0).below b
           have bx1 := (Box.d1 bx1).below b
           have ex0 := (Box.d1 ex0).below b
           have ex1 := (Box.d1 ex1).below b
           have ta00 := (ta00.below (Below.refl _ _).drew).below b
           have ta01 := (ta01.below (Below.refl _ _).drew).below b
           have ta10 := (ta10.below (Below.refl _ _).drew).below b
           have ta11 := (ta11.below (Below.refl _ _).drew).below b
           have be : Below w.heap.size w we := below_to bi.drew b
           have f0 := (bx0.2 0 _ rfl).1
           have f1 := (bx0.2 1 _ rfl).1
           have f2 := (bx0.2 2 _ rfl).1
           have f3 := (bx0.2 3 _ rfl).1
           have f4 := (bx1.2 0 _ rfl).1
           have f5 := (bx1.2 1 _ rfl).1
           have f6 := (bx1.2 2 _ rfl).1
           have f7 := (bx1.2 3 _ rfl).1
           have g0 := (ex0.2 0 _ rfl).1
           have g1 := (ex0.2 1 _ rfl).1
           have g2 := (ex0.2 2 _ rfl).1
           have g3 := (ex0.2 3 _ rfl).1
           have g4 := (ex1.2 0 _ rfl).1
           have g5 := (ex1.2 1 _ rfl).1
           have g6 := (ex1.2 2 _ rfl).1
           have g7 := (ex1.2 3 _ rfl).1)
        | (go_at_call 37
           refine (eqGSelf p00 p01 _ _ l00 _ _ x00 _ _ l01 _ _ x01 _ ta00 ua00 hla00 ta01 ua01 hla01).mono ?_
           rintro e wf ⟨rfl, b⟩
           have bx0 := bx0.below b
           have bx1 := bx1.below b
           have ex1 := ex1.below b
           have ta10 := ta10.below b
           have ta11 := ta11.below b
           have bf : Below w.heap.size w wf := below_to be b))
      all_goals (go_wp2_with fail; go_meet; exact ⟨rfl, bx0, bx1, ex1, ta10, ta11, bf⟩)
    case rest =>
    clear f0 f1 f2 f3 f4 f5 f6 f7
    clear g0 g1 g2 g3 g4 g5 g6 g7
    clear bx0 bx1 ex0 ex1 ta00 ta01 ta10 ta11
    obtain ⟨rfl, bx0, bx1, ex1, ta10, ta11, bk0⟩ := hcut
    have f0 := (bx0.2 0 _ rfl).1
    have f1 := (bx0.2 1 _ rfl).1
    have f2 := (bx0.2 2 _ rfl).1
    have f3 := (bx0.2 3 _ rfl).1
    have f4 := (bx1.2 0 _ rfl).1
    have f5 := (bx1.2 1 _ rfl).1
    have f6 := (bx1.2 2 _ rfl).1
    have f7 := (bx1.2 3 _ rfl).1
    have g0 := True.intro
    have g1 := True.intro
    have g2 := True.intro
    have g3 := True.intro
    have g4 := (ex1.2 0 _ rfl).1
    have g5 := (ex1.2 1 _ rfl).1
    have g6 := (ex1.2 2 _ rfl).1
    have g7 := (ex1.2 3 _ rfl).1
    go_upto_region 16 with (fail)
    go_cut [44] (fun sv wx => sv = .bool false ∧ Box wx (w.heap.size) [.int .i64 p00, .int .i64 p01, .slice a00 l00 c00, .slice a01 l01 c01] ∧ Box wx (w.heap.size + 1) [.int .i64 p10, .int .i64 p11, .slice a10 l10 c10, .slice a11 l11 c11] ∧ Below w.heap.size w wx)
    case first =>
      go_region_with (first
        | (go_at_call 35
           refine (toG p10 p11 a10 l10 c10 x10 a11 l11 c11 x11 _ (HSa10.out.below bk0.drew) (HSa11.out.below bk0.drew) hla10 hla11).mono ?_
           rintro e we ⟨Ea10, Ea11, rfl, ua10, ua11, b⟩
           have bx0 := (Box.d1 bx0).below b
           have bx1 := (Box.d1 bx1).below b
           have ex1 := (Box.d1 ex1).below b
           have ta10 := (ta10.below (Below.refl _ _).drew).below b
           have ta11 := (ta11.below (Below.refl _ _).drew).below b
           have be : Below w.heap.size w we := below_to bk0.drew b
           have f0 := (bx0.2 0 _ rfl).1
           have f1 := (bx0.2 1 _ rfl).1
           have f2 := (bx0.2 2 _ rfl).1
           have f3 := (bx0.2 3 _ rfl).1
           have f4 := (bx1.2 0 _ rfl).1
           have f5 := (bx1.2 1 _ rfl).1
           have f6 := (bx1.2 2 _ rfl).1
           have f7 := (bx1.2 3 _ rfl).1
           have g4 := (ex1.2 0 _ rfl).1
           have g5 := (ex1.2 1 _ rfl).1
           have g6 := (ex1.2 2 _ rfl).1
           have g7 := (ex1.2 3 _ rfl).1)
        | (go_at_call 37
           refine (eqGSelf p10 p11 _ _ l10 _ _ x10 _ _ l11 _ _ x11 _ ta10 ua10 hla10 ta11 ua11 hla11).mono ?_
           rintro e wf ⟨rfl, b⟩
           have bx0 := bx0.below b
           have bx1 := bx1.below b
           have bf : Below w.heap.size w wf := below_to be b))
      all_goals (go_wp2_with fail; go_meet; exact ⟨rfl, bx0, bx1, bf⟩)
    case rest =>
    clear f0 f1 f2 f3 f4 f5 f6 f7
    clear g0 g1 g2 g3 g4 g5 g6 g7
    clear bx0 bx1 ex1 ta10 ta11
    obtain ⟨rfl, bx0, bx1, bk1⟩ := hcut
    go_wp2_with fail
    go_ret
    exact ⟨rfl, bk1⟩
end TryWalk
end Go.Proofs.Ytlbmmecjiopbbaa
