/- The law FnExactTwoRowValue, walked. No condition. -/
import Derived.Test.YtlbmmecjiopbbaaWt7
namespace Go.Proofs.Ytlbmmecjiopbbaa
open Go.RowKit Flo Sl Pg
set_option linter.unusedVariables false
namespace TryWalk
set_option maxHeartbeats 4000000 in
theorem fnExactTwoRowValue (p00 : Int) (p01 : Int) (a00 : Option Addr) (l00 c00 : Nat) (x00 : List Int) (a01 : Option Addr) (l01 c01 : Nat) (x01 : List Int) (w : World) (hwp00 : (Lit.int .i64 p00).wf = true) (hwp01 : (Lit.int .i64 p01).wf = true) (hra00 : IsRow .i64 w a00 l00 c00 x00) (hra01 : IsRow .i64 w a01 l01 c01 x01) : Calls Try.prog 18 #[.agg #[.int .i64 p00, .int .i64 p01, .slice a00 l00 c00, .slice a01 l01 c01]] w (RetD true w) := by
  obtain ⟨hsa00, hva00, hma00⟩ := hra00
  have HSa00 := hid hsa00
  have HVa00 := hid hva00
  clear hsa00 hva00
  obtain ⟨hsa01, hva01, hma01⟩ := hra01
  have HSa01 := hid hsa01
  have HVa01 := hid hva01
  clear hsa01 hva01
  have HWp00 := hid hwp00
  clear hwp00
  have HWp01 := hid hwp01
  clear hwp01
  go_enter Try.func18, Try.ntmps18
  go_wp2_with fail
  refine (szGAny p00 p01 a00 l00 c00 a01 l01 c01 1048576 _ (Nat.le_refl _) hma00 hma01).mono ?_
  rintro e w1 ⟨r, rfl, b1, (⟨rfl, h1⟩ | ⟨rfl, h1⟩)⟩
  · have bw1 : Below w.heap.size w w1 := below_to (by repeat (first | exact Below.refl _ _ | with_reducible assumption | refine Below.alloc ?_ (by simp <;> omega) _)) b1
    go_wp2_with fail
    go_ret
    exact ⟨rfl, bw1⟩
  have bw1 : Below w.heap.size w w1 := below_to (by repeat (first | exact Below.refl _ _ | with_reducible assumption | refine Below.alloc ?_ (by simp <;> omega) _)) b1
  have bx0 : Box w1 (w.heap.size) [.int .i64 p00, .int .i64 p01, .slice a00 l00 c00, .slice a01 l01 c01] := (show Box _ (w.heap.size) _ from by simpa using Box.new w [.int .i64 p00, .int .i64 p01, .slice a00 l00 c00, .slice a01 l01 c01] 41).below b1
  have hla00 : l00 ≤ 1048576 := by omega
  have hla01 : l01 ≤ 1048576 := by omega
  obtain ⟨m1, hm1⟩ : ∃ m, 1048576 - (l00 + l01) = m := ⟨_, rfl⟩
  have hmm1 : m1 ≤ 1048576 := by omega
  rw [hm1]
  clear b1 h1 hm1
  obtain ⟨F0, F1, F2, F3, F4, hboth⟩ := bothTwo p00 p01 HWp00.out HWp01.out l00 x00 hla00 HVa00.out l01 x01 hla01 HVa01.out
  have HBOTH := hid hboth
  clear hboth
  have hFF0 : (F0 != F0) = false := by simp
  have hFF1 : (F1 != F1) = false := by simp
  have hFF2 : (F2 != F2) = false := by simp
  have hFF3 : (F3 != F3) = false := by simp
  have hFF4 : (F4 != F4) = false := by simp
  have f0 := (bx0.2 0 _ rfl).1
  have f1 := (bx0.2 1 _ rfl).1
  have f2 := (bx0.2 2 _ rfl).1
  have f3 := (bx0.2 3 _ rfl).1
  go_upto_region 5 with (fail)
  go_cut [4, 5, 6, 7, 8] (fun sv4 sv5 sv6 sv7 sv8 wx => sv4 = .int .i64 F0 ∧ sv5 = .int .i64 F1 ∧ sv6 = .int .i64 F2 ∧ sv7 = .int .i64 F3 ∧ sv8 = .bool F4 ∧ Box wx (w.heap.size) [.int .i64 p00, .int .i64 p01, .slice a00 l00 c00, .slice a01 l01 c01] ∧ Below w.heap.size w wx)
  case first =>
    go_wp2_with fail
    refine (toG p00 p01 a00 l00 c00 x00 a01 l01 c01 x01 _ (HSa00.out.below bw1) (HSa01.out.below bw1) hla00 hla01).mono ?_
    rintro e wa ⟨Aa00, Aa01, rfl, sa00, sa01, ba⟩
    have bx0 := bx0.below ba
    have bwa : Below w.heap.size w wa := below_to bw1 ba
    clear f0 f1 f2 f3
    have f0 := (bx0.2 0 _ rfl).1
    have f1 := (bx0.2 1 _ rfl).1
    have f2 := (bx0.2 2 _ rfl).1
    have f3 := (bx0.2 3 _ rfl).1
    go_wp2_with fail
    refine (HBOTH.out _ _ _ _ _ sa00 sa01).1.mono ?_
    rintro e wb ⟨rfl, bb⟩
    have bx0 := bx0.below bb
    have bwb : Below w.heap.size w wb := below_to bwa bb
    go_wp2_with fail
    go_meet
    exact ⟨rfl, rfl, rfl, rfl, rfl, bx0, bwb⟩
  case rest =>
    obtain ⟨rfl, rfl, rfl, rfl, rfl, bx0, bc⟩ := hcut
    have f0 := (bx0.2 0 _ rfl).1
    have f1 := (bx0.2 1 _ rfl).1
    have f2 := (bx0.2 2 _ rfl).1
    have f3 := (bx0.2 3 _ rfl).1
    go_wp2_with fail
    refine (toG p00 p01 a00 l00 c00 x00 a01 l01 c01 x01 _ (HSa00.out.below bc) (HSa01.out.below bc) hla00 hla01).mono ?_
    rintro e wy0 ⟨Ba00, Ba01, rfl, ta00, ta01, b⟩
    clear f0 f1 f2 f3
    have bx0 := bx0.below b
    have by0 : Below w.heap.size w wy0 := below_to bc b
    clear b
    have hal : Below wy0.heap.size wy0 (wy0.alloc (.cells #[.int .i64 p00, .int .i64 p01, .slice Ba00 l00 l00, .slice Ba01 l01 l01] 44)) := Below.alloc (Below.refl _ _) (Nat.le_refl _) _
    have bx0 := bx0.below hal
    have ex0 : Box (wy0.alloc (.cells #[.int .i64 p00, .int .i64 p01, .slice Ba00 l00 l00, .slice Ba01 l01 l01] 44)) wy0.heap.size [.int .i64 p00, .int .i64 p01, .slice Ba00 l00 l00, .slice Ba01 l01 l01] := Box.new _ _ _
    have ta00 := ta00.below hal
    have ta01 := ta01.below hal
    have byl0 : Below w.heap.size w (wy0.alloc (.cells #[.int .i64 p00, .int .i64 p01, .slice Ba00 l00 l00, .slice Ba01 l01 l01] 44)) := below_to by0 hal
    clear hal
    go_wp2_with fail
    refine (HBOTH.out _ _ _ _ _ ta00 ta01).2.mono ?_
    rintro e wi ⟨rfl, b⟩
    have bx0 := bx0.below b
    have ex0 := ex0.below b
    have ta00 := ta00.below b
    have ta01 := ta01.below b
    have bi : Below w.heap.size w wi := below_to byl0 b
    clear b
    have f0 := (bx0.2 0 _ rfl).1
    have f1 := (bx0.2 1 _ rfl).1
    have f2 := (bx0.2 2 _ rfl).1
    have f3 := (bx0.2 3 _ rfl).1
    have g0 := (ex0.2 0 _ rfl).1
    have g1 := (ex0.2 1 _ rfl).1
    have g2 := (ex0.2 2 _ rfl).1
    have g3 := (ex0.2 3 _ rfl).1
    go_upto_region 10 with (fail)
    go_cut [66] (fun sv wx => sv = .bool false ∧ Box wx (w.heap.size) [.int .i64 p00, .int .i64 p01, .slice a00 l00 c00, .slice a01 l01 c01] ∧ Below w.heap.size w wx)
    case first =>
      go_region_with (first
        | (go_at_call 35
           refine (toG p00 p01 a00 l00 c00 x00 a01 l01 c01 x01 _ (HSa00.out.below bi.drew) (HSa01.out.below bi.drew) hla00 hla01).mono ?_
           rintro e we ⟨Ea00, Ea01, rfl, ua00, ua01, b⟩
           have bx0 := (Box.d1 bx0).below b
           have ex0 := (Box.d1 ex0).below b
           have ta00 := (ta00.below (Below.refl _ _).drew).below b
           have ta01 := (ta01.below (Below.refl _ _).drew).below b
           have be : Below w.heap.size w we := below_to bi.drew b
           have f0 := (bx0.2 0 _ rfl).1
           have f1 := (bx0.2 1 _ rfl).1
           have f2 := (bx0.2 2 _ rfl).1
           have f3 := (bx0.2 3 _ rfl).1
           have g0 := (ex0.2 0 _ rfl).1
           have g1 := (ex0.2 1 _ rfl).1
           have g2 := (ex0.2 2 _ rfl).1
           have g3 := (ex0.2 3 _ rfl).1)
        | (go_at_call 37
           refine (eqGSelf p00 p01 _ _ l00 _ _ x00 _ _ l01 _ _ x01 _ ta00 ua00 hla00 ta01 ua01 hla01).mono ?_
           rintro e wf ⟨rfl, b⟩
           have bx0 := bx0.below b
           have bf : Below w.heap.size w wf := below_to be b))
      all_goals (go_wp2_with fail; go_meet; exact ⟨rfl, bx0, bf⟩)
    case rest =>
    clear f0 f1 f2 f3
    clear g0 g1 g2 g3
    clear bx0 ex0 ta00 ta01
    obtain ⟨rfl, bx0, bk0⟩ := hcut
    go_wp2_with fail
    go_ret
    exact ⟨rfl, bk0⟩
end TryWalk
end Go.Proofs.Ytlbmmecjiopbbaa
