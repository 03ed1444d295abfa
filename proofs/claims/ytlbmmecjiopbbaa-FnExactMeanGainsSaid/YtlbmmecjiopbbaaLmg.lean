/- The law FnExactMeanGains, walked. No condition. -/
import Derived.Test.YtlbmmecjiopbbaaWm3
namespace Go.Proofs.Ytlbmmecjiopbbaa
open Go.RowKit Flo Sl Pg
set_option linter.unusedVariables false
namespace TryWalk
set_option maxRecDepth 100000 in
set_option maxHeartbeats 8000000 in
theorem fnExactMeanGains (p00 : Int) (p01 : Int) (a00 : Option Addr) (l00 c00 : Nat) (x00 : List Int) (a01 : Option Addr) (l01 c01 : Nat) (x01 : List Int) (a10 : Option Addr) (l10 c10 : Nat) (x10 : List Int) (a11 : Option Addr) (l11 c11 : Nat) (x11 : List Int) (a20 : Option Addr) (l20 c20 : Nat) (x20 : List Int) (a21 : Option Addr) (l21 c21 : Nat) (x21 : List Int) (w : World) (hwp00 : (Lit.int .i64 p00).wf = true) (hwp01 : (Lit.int .i64 p01).wf = true) (hra00 : IsRow .i64 w a00 l00 c00 x00) (hra01 : IsRow .i64 w a01 l01 c01 x01) (hra10 : IsRow .i64 w a10 l10 c10 x10) (hra11 : IsRow .i64 w a11 l11 c11 x11) (hra20 : IsRow .i64 w a20 l20 c20 x20) (hra21 : IsRow .i64 w a21 l21 c21 x21) : Calls Try.prog 20 #[.agg #[.int .i64 p00, .int .i64 p01, .slice a00 l00 c00, .slice a01 l01 c01], .agg #[.slice a10 l10 c10, .slice a11 l11 c11], .agg #[.slice a20 l20 c20, .slice a21 l21 c21]] w (RetD true w) := by
  obtain ⟨hsa00, hva00, hma00⟩ := hra00
  have HSa00 := hid hsa00
  have HVa00 := hid hva00
  clear hsa00 hva00
  obtain ⟨hsa01, hva01, hma01⟩ := hra01
  have HSa01 := hid hsa01
  have HVa01 := hid hva01
  clear hsa01 hva01
  obtain ⟨hsa10, hva10, hma10⟩ := hra10
  have HSa10 := hid hsa10
  have HVa10 := hid hva10
  clear hsa10 hva10
  obtain ⟨hsa11, hva11, hma11⟩ := hra11
  have HSa11 := hid hsa11
  have HVa11 := hid hva11
  clear hsa11 hva11
  obtain ⟨hsa20, hva20, hma20⟩ := hra20
  have HSa20 := hid hsa20
  have HVa20 := hid hva20
  clear hsa20 hva20
  obtain ⟨hsa21, hva21, hma21⟩ := hra21
  have HSa21 := hid hsa21
  have HVa21 := hid hva21
  clear hsa21 hva21
  have HWp00 := hid hwp00
  clear hwp00
  have HWp01 := hid hwp01
  clear hwp01
  go_enter Try.func20, Try.ntmps20
  go_wp2_with fail
  refine (szGAny p00 p01 a00 l00 c00 a01 l01 c01 1048576 _ (Nat.le_refl _) hma00 hma01).mono ?_
  rintro e w1 ⟨r, rfl, b1, (⟨rfl, h1⟩ | ⟨rfl, h1⟩)⟩
  · have bw1 : Below w.heap.size w w1 := below_to (by repeat (first | exact Below.refl _ _ | with_reducible assumption | refine Below.alloc ?_ (by simp <;> omega) _)) b1
    go_wp2_with fail
    go_ret
    exact ⟨rfl, bw1⟩
  have bw1 : Below w.heap.size w w1 := below_to (by repeat (first | exact Below.refl _ _ | with_reducible assumption | refine Below.alloc ?_ (by simp <;> omega) _)) b1
  have bx0 : Box w1 (w.heap.size) [.int .i64 p00, .int .i64 p01, .slice a00 l00 c00, .slice a01 l01 c01] := (((show Box _ (w.heap.size) _ from by simpa using Box.new w [.int .i64 p00, .int .i64 p01, .slice a00 l00 c00, .slice a01 l01 c01] 41).al _).al _).below b1
  have bx1 : Box w1 (w.heap.size + 1) [.slice a10 l10 c10, .slice a11 l11 c11] := ((show Box _ (w.heap.size + 1) _ from by simpa using Box.new (w.alloc (.cells #[.int .i64 p00, .int .i64 p01, .slice a00 l00 c00, .slice a01 l01 c01] 41)) [.slice a10 l10 c10, .slice a11 l11 c11] 33).al _).below b1
  have bx2 : Box w1 (w.heap.size + 1 + 1) [.slice a20 l20 c20, .slice a21 l21 c21] := (show Box _ (w.heap.size + 1 + 1) _ from by simpa using Box.new ((w.alloc (.cells #[.int .i64 p00, .int .i64 p01, .slice a00 l00 c00, .slice a01 l01 c01] 41)).alloc (.cells #[.slice a10 l10 c10, .slice a11 l11 c11] 33)) [.slice a20 l20 c20, .slice a21 l21 c21] 33).below b1
  have hla00 : l00 ≤ 1048576 := by omega
  have hla01 : l01 ≤ 1048576 := by omega
  obtain ⟨m1, hm1⟩ : ∃ m, 1048576 - (l00 + l01) = m := ⟨_, rfl⟩
  have hmm1 : m1 ≤ 1048576 := by omega
  rw [hm1]
  clear b1 h1 hm1
  have f0 := (bx0.2 0 _ rfl).1
  have f1 := (bx0.2 1 _ rfl).1
  have f2 := (bx0.2 2 _ rfl).1
  have f3 := (bx0.2 3 _ rfl).1
  have f4 := (bx1.2 0 _ rfl).1
  have f5 := (bx1.2 1 _ rfl).1
  have f6 := (bx2.2 0 _ rfl).1
  have f7 := (bx2.2 1 _ rfl).1
  go_wp2_with fail
  refine (szPAny a10 l10 c10 a11 l11 c11 m1 _ hmm1 hma10 hma11).mono ?_
  rintro e w2 ⟨r, rfl, b2, (⟨rfl, h2⟩ | ⟨rfl, h2⟩)⟩
  · have bw2 : Below w.heap.size w w2 := below_to bw1 b2
    go_wp2_with fail
    go_ret
    exact ⟨rfl, bw2⟩
  clear f0 f1 f2 f3 f4 f5 f6 f7
  have bx0 := bx0.below b2
  have bx1 := bx1.below b2
  have bx2 := bx2.below b2
  have bw2 : Below w.heap.size w w2 := below_to bw1 b2
  have hla10 : l10 ≤ 1048576 := by omega
  have hla11 : l11 ≤ 1048576 := by omega
  obtain ⟨m2, hm2⟩ : ∃ m, m1 - (l10 + l11) = m := ⟨_, rfl⟩
  have hmm2 : m2 ≤ 1048576 := by omega
  rw [hm2]
  clear b2 h2 hm2
  have f0 := (bx0.2 0 _ rfl).1
  have f1 := (bx0.2 1 _ rfl).1
  have f2 := (bx0.2 2 _ rfl).1
  have f3 := (bx0.2 3 _ rfl).1
  have f4 := (bx1.2 0 _ rfl).1
  have f5 := (bx1.2 1 _ rfl).1
  have f6 := (bx2.2 0 _ rfl).1
  have f7 := (bx2.2 1 _ rfl).1
  go_wp2_with fail
  refine (szPAny a20 l20 c20 a21 l21 c21 m2 _ hmm2 hma20 hma21).mono ?_
  rintro e w3 ⟨r, rfl, b3, (⟨rfl, h3⟩ | ⟨rfl, h3⟩)⟩
  · have bw3 : Below w.heap.size w w3 := below_to bw2 b3
    go_wp2_with fail
    go_ret
    exact ⟨rfl, bw3⟩
  clear f0 f1 f2 f3 f4 f5 f6 f7
  have bx0 := bx0.below b3
  have bx1 := bx1.below b3
  have bx2 := bx2.below b3
  have bw3 : Below w.heap.size w w3 := below_to bw2 b3
  have hla20 : l20 ≤ 1048576 := by omega
  have hla21 : l21 ≤ 1048576 := by omega
  obtain ⟨m3, hm3⟩ : ∃ m, m2 - (l20 + l21) = m := ⟨_, rfl⟩
  have hmm3 : m3 ≤ 1048576 := by omega
  rw [hm3]
  clear b3 h3 hm3
  obtain ⟨F0, F1, F2, F3, hboth⟩ := bothMean p00 p01 HWp00.out HWp01.out l00 x00 hla00 HVa00.out l01 x01 hla01 HVa01.out l10 x10 hla10 HVa10.out l11 x11 hla11 HVa11.out l20 x20 hla20 HVa20.out l21 x21 hla21 HVa21.out
  have HBOTH := hid hboth
  clear hboth
  have hFF0 : (F0 != F0) = false := by simp
  have hFF1 : (F1 != F1) = false := by simp
  have hFF2 : (F2 != F2) = false := by simp
  have hFF3 : (F3 != F3) = false := by simp
  have f0 := (bx0.2 0 _ rfl).1
  have f1 := (bx0.2 1 _ rfl).1
  have f2 := (bx0.2 2 _ rfl).1
  have f3 := (bx0.2 3 _ rfl).1
  have f4 := (bx1.2 0 _ rfl).1
  have f5 := (bx1.2 1 _ rfl).1
  have f6 := (bx2.2 0 _ rfl).1
  have f7 := (bx2.2 1 _ rfl).1
  go_upto_region 11 with (fail)
  go_cut [8, 9, 10, 11] (fun sv8 sv9 sv10 sv11 wx => sv8 = .int .i64 F0 ∧ sv9 = .int .i64 F1 ∧ sv10 = .int .i64 F2 ∧ sv11 = .bool F3 ∧ Box wx (w.heap.size) [.int .i64 p00, .int .i64 p01, .slice a00 l00 c00, .slice a01 l01 c01] ∧ Box wx (w.heap.size + 1) [.slice a10 l10 c10, .slice a11 l11 c11] ∧ Box wx (w.heap.size + 1 + 1) [.slice a20 l20 c20, .slice a21 l21 c21] ∧ Below w.heap.size w wx)
  case first =>
    have HQa00 := hid (HSa00.out.below bw3)
    have HQa01 := hid (HSa01.out.below bw3)
    have HQa10 := hid (HSa10.out.below bw3)
    have HQa11 := hid (HSa11.out.below bw3)
    have HQa20 := hid (HSa20.out.below bw3)
    have HQa21 := hid (HSa21.out.below bw3)
    have HKK : Hid (∀ w', Below w3.heap.size w3 w' → Below w3.heap.size w3 w' ∧ w'.cell? ⟨w.heap.size, 0, none⟩ = some (.int .i64 p00) ∧ w'.cell? ⟨w.heap.size, 1, none⟩ = some (.int .i64 p01) ∧ w'.cell? ⟨w.heap.size, 2, none⟩ = some (.slice a00 l00 c00) ∧ w'.cell? ⟨w.heap.size, 3, none⟩ = some (.slice a01 l01 c01) ∧ w'.cell? ⟨w.heap.size + 1, 0, none⟩ = some (.slice a10 l10 c10) ∧ w'.cell? ⟨w.heap.size + 1, 1, none⟩ = some (.slice a11 l11 c11) ∧ w'.cell? ⟨w.heap.size + 1 + 1, 0, none⟩ = some (.slice a20 l20 c20) ∧ w'.cell? ⟨w.heap.size + 1 + 1, 1, none⟩ = some (.slice a21 l21 c21)) := hid (fun w' b => ⟨b, ((bx0.below b).2 0 _ rfl).1, ((bx0.below b).2 1 _ rfl).1, ((bx0.below b).2 2 _ rfl).1, ((bx0.below b).2 3 _ rfl).1, ((bx1.below b).2 0 _ rfl).1, ((bx1.below b).2 1 _ rfl).1, ((bx2.below b).2 0 _ rfl).1, ((bx2.below b).2 1 _ rfl).1⟩)
    go_region_held3 (fun w' => Below w3.heap.size w3 w' ∧ w'.cell? ⟨w.heap.size, 0, none⟩ = some (.int .i64 p00) ∧ w'.cell? ⟨w.heap.size, 1, none⟩ = some (.int .i64 p01) ∧ w'.cell? ⟨w.heap.size, 2, none⟩ = some (.slice a00 l00 c00) ∧ w'.cell? ⟨w.heap.size, 3, none⟩ = some (.slice a01 l01 c01) ∧ w'.cell? ⟨w.heap.size + 1, 0, none⟩ = some (.slice a10 l10 c10) ∧ w'.cell? ⟨w.heap.size + 1, 1, none⟩ = some (.slice a11 l11 c11) ∧ w'.cell? ⟨w.heap.size + 1 + 1, 0, none⟩ = some (.slice a20 l20 c20) ∧ w'.cell? ⟨w.heap.size + 1 + 1, 1, none⟩ = some (.slice a21 l21 c21)) ((go_split_ands; exact HKK.out _ (by first | with_reducible assumption | with_reducible exact (Below.refl _ _).drew | with_reducible exact Below.refl _ _ | (refine Below.drew ?_; with_reducible assumption))))
      (first
      | (go_at_call 30
         with_reducible refine (toP a20 l20 c20 x20 a21 l21 c21 x21 _ (HQa20.out.below bq01) (HQa21.out.below bq01) hla20 hla21).mono ?_
         rintro e wq012 ⟨Aa20, Aa21, rfl, sq012a20, sq012a21, b⟩
         have bq012 : Below w3.heap.size w3 wq012 := below_to bq01 b
         have sq012a00 := sq01a00.below b
         have sq012a01 := sq01a01.below b
         have sq012a10 := sq01a10.below b
         have sq012a11 := sq01a11.below b)
      | (go_at_call 30
         with_reducible refine (toP a10 l10 c10 x10 a11 l11 c11 x11 _ (HQa10.out.below bq02) (HQa11.out.below bq02) hla10 hla11).mono ?_
         rintro e wq012 ⟨Aa10, Aa11, rfl, sq012a10, sq012a11, b⟩
         have bq012 : Below w3.heap.size w3 wq012 := below_to bq02 b
         have sq012a00 := sq02a00.below b
         have sq012a01 := sq02a01.below b
         have sq012a20 := sq02a20.below b
         have sq012a21 := sq02a21.below b)
      | (go_at_call 35
         with_reducible refine (toG p00 p01 a00 l00 c00 x00 a01 l01 c01 x01 _ (HQa00.out.below bq12) (HQa01.out.below bq12) hla00 hla01).mono ?_
         rintro e wq012 ⟨Aa00, Aa01, rfl, sq012a00, sq012a01, b⟩
         have bq012 : Below w3.heap.size w3 wq012 := below_to bq12 b
         have sq012a10 := sq12a10.below b
         have sq012a11 := sq12a11.below b
         have sq012a20 := sq12a20.below b
         have sq012a21 := sq12a21.below b)
      | (go_at_call 30
         with_reducible refine (toP a10 l10 c10 x10 a11 l11 c11 x11 _ (HQa10.out.below bq0) (HQa11.out.below bq0) hla10 hla11).mono ?_
         rintro e wq01 ⟨Aa10, Aa11, rfl, sq01a10, sq01a11, b⟩
         have bq01 : Below w3.heap.size w3 wq01 := below_to bq0 b
         have sq01a00 := sq0a00.below b
         have sq01a01 := sq0a01.below b)
      | (go_at_call 30
         with_reducible refine (toP a20 l20 c20 x20 a21 l21 c21 x21 _ (HQa20.out.below bq0) (HQa21.out.below bq0) hla20 hla21).mono ?_
         rintro e wq02 ⟨Aa20, Aa21, rfl, sq02a20, sq02a21, b⟩
         have bq02 : Below w3.heap.size w3 wq02 := below_to bq0 b
         have sq02a00 := sq0a00.below b
         have sq02a01 := sq0a01.below b)
      | (go_at_call 35
         with_reducible refine (toG p00 p01 a00 l00 c00 x00 a01 l01 c01 x01 _ (HQa00.out.below bq1) (HQa01.out.below bq1) hla00 hla01).mono ?_
         rintro e wq01 ⟨Aa00, Aa01, rfl, sq01a00, sq01a01, b⟩
         have bq01 : Below w3.heap.size w3 wq01 := below_to bq1 b
         have sq01a10 := sq1a10.below b
         have sq01a11 := sq1a11.below b)
      | (go_at_call 30
         with_reducible refine (toP a20 l20 c20 x20 a21 l21 c21 x21 _ (HQa20.out.below bq1) (HQa21.out.below bq1) hla20 hla21).mono ?_
         rintro e wq12 ⟨Aa20, Aa21, rfl, sq12a20, sq12a21, b⟩
         have bq12 : Below w3.heap.size w3 wq12 := below_to bq1 b
         have sq12a10 := sq1a10.below b
         have sq12a11 := sq1a11.below b)
      | (go_at_call 35
         with_reducible refine (toG p00 p01 a00 l00 c00 x00 a01 l01 c01 x01 _ (HQa00.out.below bq2) (HQa01.out.below bq2) hla00 hla01).mono ?_
         rintro e wq02 ⟨Aa00, Aa01, rfl, sq02a00, sq02a01, b⟩
         have bq02 : Below w3.heap.size w3 wq02 := below_to bq2 b
         have sq02a20 := sq2a20.below b
         have sq02a21 := sq2a21.below b)
      | (go_at_call 30
         with_reducible refine (toP a10 l10 c10 x10 a11 l11 c11 x11 _ (HQa10.out.below bq2) (HQa11.out.below bq2) hla10 hla11).mono ?_
         rintro e wq12 ⟨Aa10, Aa11, rfl, sq12a10, sq12a11, b⟩
         have bq12 : Below w3.heap.size w3 wq12 := below_to bq2 b
         have sq12a20 := sq2a20.below b
         have sq12a21 := sq2a21.below b)
      | (go_at_call 35
         with_reducible refine (toG p00 p01 a00 l00 c00 x00 a01 l01 c01 x01 _ (HQa00.out.below (Below.refl w3.heap.size w3).drew) (HQa01.out.below (Below.refl w3.heap.size w3).drew) hla00 hla01).mono ?_
         rintro e wq0 ⟨Aa00, Aa01, rfl, sq0a00, sq0a01, b⟩
         have bq0 : Below w3.heap.size w3 wq0 := below_to (Below.refl w3.heap.size w3).drew b)
      | (go_at_call 30
         with_reducible refine (toP a10 l10 c10 x10 a11 l11 c11 x11 _ (HQa10.out.below (Below.refl w3.heap.size w3).drew) (HQa11.out.below (Below.refl w3.heap.size w3).drew) hla10 hla11).mono ?_
         rintro e wq1 ⟨Aa10, Aa11, rfl, sq1a10, sq1a11, b⟩
         have bq1 : Below w3.heap.size w3 wq1 := below_to (Below.refl w3.heap.size w3).drew b)
      | (go_at_call 30
         with_reducible refine (toP a20 l20 c20 x20 a21 l21 c21 x21 _ (HQa20.out.below (Below.refl w3.heap.size w3).drew) (HQa21.out.below (Below.refl w3.heap.size w3).drew) hla20 hla21).mono ?_
         rintro e wq2 ⟨Aa20, Aa21, rfl, sq2a20, sq2a21, b⟩
         have bq2 : Below w3.heap.size w3 wq2 := below_to (Below.refl w3.heap.size w3).drew b)
      | (go_at_call 74
         refine (HBOTH.out _ _ _ _ _ _ _ _ _ _ _ _ _ sq012a00 sq012a01 sq012a10 sq012a11 sq012a20 sq012a21).1.mono ?_
         rintro e wz ⟨rfl, b⟩
         have bz : Below w3.heap.size w3 wz := below_to bq012 b))
    all_goals (go_wp2_with fail; go_meet; exact ⟨rfl, rfl, rfl, rfl, bx0.below bz, bx1.below bz, bx2.below bz, below_to bw3 bz⟩)
  case rest =>
    obtain ⟨rfl, rfl, rfl, rfl, bx0, bx1, bx2, bc⟩ := hcut
    have f0 := (bx0.2 0 _ rfl).1
    have f1 := (bx0.2 1 _ rfl).1
    have f2 := (bx0.2 2 _ rfl).1
    have f3 := (bx0.2 3 _ rfl).1
    have f4 := (bx1.2 0 _ rfl).1
    have f5 := (bx1.2 1 _ rfl).1
    have f6 := (bx2.2 0 _ rfl).1
    have f7 := (bx2.2 1 _ rfl).1
    go_wp2_with fail
    refine (toG p00 p01 a00 l00 c00 x00 a01 l01 c01 x01 _ (HSa00.out.below bc) (HSa01.out.below bc) hla00 hla01).mono ?_
    rintro e wy0 ⟨Ba00, Ba01, rfl, ta00, ta01, b⟩
    clear f0 f1 f2 f3 f4 f5 f6 f7
    have bx0 := bx0.below b
    have bx1 := bx1.below b
    have bx2 := bx2.below b
    have by0 : Below w.heap.size w wy0 := below_to bc b
    clear b
    have hal : Below wy0.heap.size wy0 (wy0.alloc (.cells #[.int .i64 p00, .int .i64 p01, .slice Ba00 l00 l00, .slice Ba01 l01 l01] 44)) := Below.alloc (Below.refl _ _) (Nat.le_refl _) _
    have bx0 := bx0.below hal
    have bx1 := bx1.below hal
    have bx2 := bx2.below hal
    have ex0 : Box (wy0.alloc (.cells #[.int .i64 p00, .int .i64 p01, .slice Ba00 l00 l00, .slice Ba01 l01 l01] 44)) wy0.heap.size [.int .i64 p00, .int .i64 p01, .slice Ba00 l00 l00, .slice Ba01 l01 l01] := Box.new _ _ _
    have ta00 := ta00.below hal
    have ta01 := ta01.below hal
    have byl0 : Below w.heap.size w (wy0.alloc (.cells #[.int .i64 p00, .int .i64 p01, .slice Ba00 l00 l00, .slice Ba01 l01 l01] 44)) := below_to by0 hal
    clear hal
    have f0 := (bx0.2 0 _ rfl).1
    have f1 := (bx0.2 1 _ rfl).1
    have f2 := (bx0.2 2 _ rfl).1
    have f3 := (bx0.2 3 _ rfl).1
    have f4 := (bx1.2 0 _ rfl).1
    have f5 := (bx1.2 1 _ rfl).1
    have f6 := (bx2.2 0 _ rfl).1
    have f7 := (bx2.2 1 _ rfl).1
    go_wp2_with fail
    refine (toP a10 l10 c10 x10 a11 l11 c11 x11 _ (HSa10.out.below byl0) (HSa11.out.below byl0) hla10 hla11).mono ?_
    rintro e wy1 ⟨Ba10, Ba11, rfl, ta10, ta11, b⟩
    clear f0 f1 f2 f3 f4 f5 f6 f7
    have bx0 := bx0.below b
    have bx1 := bx1.below b
    have bx2 := bx2.below b
    have ex0 := ex0.below b
    have ta00 := ta00.below b
    have ta01 := ta01.below b
    have by1 : Below w.heap.size w wy1 := below_to byl0 b
    clear b
    have hal : Below wy1.heap.size wy1 (wy1.alloc (.cells #[.slice Ba10 l10 l10, .slice Ba11 l11 l11] 36)) := Below.alloc (Below.refl _ _) (Nat.le_refl _) _
    have bx0 := bx0.below hal
    have bx1 := bx1.below hal
    have bx2 := bx2.below hal
    have ex0 := ex0.below hal
    have ex1 : Box (wy1.alloc (.cells #[.slice Ba10 l10 l10, .slice Ba11 l11 l11] 36)) wy1.heap.size [.slice Ba10 l10 l10, .slice Ba11 l11 l11] := Box.new _ _ _
    have ta00 := ta00.below hal
    have ta01 := ta01.below hal
    have ta10 := ta10.below hal
    have ta11 := ta11.below hal
    have byl1 : Below w.heap.size w (wy1.alloc (.cells #[.slice Ba10 l10 l10, .slice Ba11 l11 l11] 36)) := below_to by1 hal
    clear hal
    have f0 := (bx0.2 0 _ rfl).1
    have f1 := (bx0.2 1 _ rfl).1
    have f2 := (bx0.2 2 _ rfl).1
    have f3 := (bx0.2 3 _ rfl).1
    have f4 := (bx1.2 0 _ rfl).1
    have f5 := (bx1.2 1 _ rfl).1
    have f6 := (bx2.2 0 _ rfl).1
    have f7 := (bx2.2 1 _ rfl).1
    go_wp2_with fail
    refine (toP a20 l20 c20 x20 a21 l21 c21 x21 _ (HSa20.out.below byl1) (HSa21.out.below byl1) hla20 hla21).mono ?_
    rintro e wy2 ⟨Ba20, Ba21, rfl, ta20, ta21, b⟩
    clear f0 f1 f2 f3 f4 f5 f6 f7
    have bx0 := bx0.below b
    have bx1 := bx1.below b
    have bx2 := bx2.below b
    have ex0 := ex0.below b
    have ta00 := ta00.below b
    have ta01 := ta01.below b
    have ex1 := ex1.below b
    have ta10 := ta10.below b
    have ta11 := ta11.below b
    have by2 : Below w.heap.size w wy2 := below_to byl1 b
    clear b
    have hal : Below wy2.heap.size wy2 (wy2.alloc (.cells #[.slice Ba20 l20 l20, .slice Ba21 l21 l21] 36)) := Below.alloc (Below.refl _ _) (Nat.le_refl _) _
    have bx0 := bx0.below hal
    have bx1 := bx1.below hal
    have bx2 := bx2.below hal
    have ex0 := ex0.below hal
    have ex1 := ex1.below hal
    have ex2 : Box (wy2.alloc (.cells #[.slice Ba20 l20 l20, .slice Ba21 l21 l21] 36)) wy2.heap.size [.slice Ba20 l20 l20, .slice Ba21 l21 l21] := Box.new _ _ _
    have ta00 := ta00.below hal
    have ta01 := ta01.below hal
    have ta10 := ta10.below hal
    have ta11 := ta11.below hal
    have ta20 := ta20.below hal
    have ta21 := ta21.below hal
    have byl2 : Below w.heap.size w (wy2.alloc (.cells #[.slice Ba20 l20 l20, .slice Ba21 l21 l21] 36)) := below_to by2 hal
    clear hal
    have g0 := (ex0.2 0 _ rfl).1
    have g1 := (ex0.2 1 _ rfl).1
    have g2 := (ex0.2 2 _ rfl).1
    have g3 := (ex0.2 3 _ rfl).1
    have g4 := (ex1.2 0 _ rfl).1
    have g5 := (ex1.2 1 _ rfl).1
    have g6 := (ex2.2 0 _ rfl).1
    have g7 := (ex2.2 1 _ rfl).1
    go_wp2_with fail
    refine (HBOTH.out _ _ _ _ _ _ _ _ _ _ _ _ _ ta00 ta01 ta10 ta11 ta20 ta21).2.mono ?_
    rintro e wi ⟨rfl, b⟩
    clear g0 g1 g2 g3 g4 g5 g6 g7
    have bx0 := bx0.below b
    have ex0 := ex0.below b
    have bx1 := bx1.below b
    have ex1 := ex1.below b
    have bx2 := bx2.below b
    have ex2 := ex2.below b
    have ta00 := ta00.below b
    have ta01 := ta01.below b
    have ta10 := ta10.below b
    have ta11 := ta11.below b
    have ta20 := ta20.below b
    have ta21 := ta21.below b
    have bi : Below w.heap.size w wi := below_to byl2 b
    clear b
    have f0 := (bx0.2 0 _ rfl).1
    have f1 := (bx0.2 1 _ rfl).1
    have f2 := (bx0.2 2 _ rfl).1
    have f3 := (bx0.2 3 _ rfl).1
    have f4 := (bx1.2 0 _ rfl).1
    have f5 := (bx1.2 1 _ rfl).1
    have f6 := (bx2.2 0 _ rfl).1
    have f7 := (bx2.2 1 _ rfl).1
    have g0 := (ex0.2 0 _ rfl).1
    have g1 := (ex0.2 1 _ rfl).1
    have g2 := (ex0.2 2 _ rfl).1
    have g3 := (ex0.2 3 _ rfl).1
    have g4 := (ex1.2 0 _ rfl).1
    have g5 := (ex1.2 1 _ rfl).1
    have g6 := (ex2.2 0 _ rfl).1
    have g7 := (ex2.2 1 _ rfl).1
    go_upto_region 18 with (fail)
    go_cut [83] (fun sv wx => sv = .bool false ∧ Box wx (w.heap.size) [.int .i64 p00, .int .i64 p01, .slice a00 l00 c00, .slice a01 l01 c01] ∧ Box wx (w.heap.size + 1) [.slice a10 l10 c10, .slice a11 l11 c11] ∧ Box wx (w.heap.size + 1 + 1) [.slice a20 l20 c20, .slice a21 l21 c21] ∧ Box wx wy1.heap.size [.slice Ba10 l10 l10, .slice Ba11 l11 l11] ∧ Box wx wy2.heap.size [.slice Ba20 l20 l20, .slice Ba21 l21 l21] ∧ SlV (Value.int .i64) wx Ba10 l10 x10 ∧ SlV (Value.int .i64) wx Ba11 l11 x11 ∧ SlV (Value.int .i64) wx Ba20 l20 x20 ∧ SlV (Value.int .i64) wx Ba21 l21 x21 ∧ Below w.heap.size w wx)
    case first =>
      go_region_with (first
        | (go_at_call 35
           refine (toG p00 p01 a00 l00 c00 x00 a01 l01 c01 x01 _ (HSa00.out.below bi.drew) (HSa01.out.below bi.drew) hla00 hla01).mono ?_
           rintro e we ⟨Ea00, Ea01, rfl, ua00, ua01, b⟩
           have bx0 := (Box.d1 bx0).below b
           have bx1 := (Box.d1 bx1).below b
           have bx2 := (Box.d1 bx2).below b
           have ex0 := (Box.d1 ex0).below b
           have ex1 := (Box.d1 ex1).below b
           have ex2 := (Box.d1 ex2).below b
           have ta00 := (ta00.below (Below.refl _ _).drew).below b
           have ta01 := (ta01.below (Below.refl _ _).drew).below b
           have ta10 := (ta10.below (Below.refl _ _).drew).below b
           have ta11 := (ta11.below (Below.refl _ _).drew).below b
           have ta20 := (ta20.below (Below.refl _ _).drew).below b
           have ta21 := (ta21.below (Below.refl _ _).drew).below b
           have be : Below w.heap.size w we := below_to bi.drew b
           have f0 := (bx0.2 0 _ rfl).1
           have f1 := (bx0.2 1 _ rfl).1
           have f2 := (bx0.2 2 _ rfl).1
           have f3 := (bx0.2 3 _ rfl).1
           have f4 := (bx1.2 0 _ rfl).1
           have f5 := (bx1.2 1 _ rfl).1
           have f6 := (bx2.2 0 _ rfl).1
           have f7 := (bx2.2 1 _ rfl).1
           have g0 := (ex0.2 0 _ rfl).1
           have g1 := (ex0.2 1 _ rfl).1
           have g2 := (ex0.2 2 _ rfl).1
           have g3 := (ex0.2 3 _ rfl).1
           have g4 := (ex1.2 0 _ rfl).1
           have g5 := (ex1.2 1 _ rfl).1
           have g6 := (ex2.2 0 _ rfl).1
           have g7 := (ex2.2 1 _ rfl).1)
        | (go_at_call 37
           refine (eqGSelf p00 p01 _ _ l00 _ _ x00 _ _ l01 _ _ x01 _ ta00 ua00 hla00 ta01 ua01 hla01).mono ?_
           rintro e wf ⟨rfl, b⟩
           have bx0 := bx0.below b
           have bx1 := bx1.below b
           have bx2 := bx2.below b
           have ex1 := ex1.below b
           have ex2 := ex2.below b
           have ta10 := ta10.below b
           have ta11 := ta11.below b
           have ta20 := ta20.below b
           have ta21 := ta21.below b
           have bf : Below w.heap.size w wf := below_to be b))
      all_goals (go_wp2_with fail; go_meet; exact ⟨rfl, bx0, bx1, bx2, ex1, ex2, ta10, ta11, ta20, ta21, bf⟩)
    case rest =>
    clear f0 f1 f2 f3 f4 f5 f6 f7
    clear g0 g1 g2 g3 g4 g5 g6 g7
    clear bx0 bx1 bx2 ex0 ex1 ex2 ta00 ta01 ta10 ta11 ta20 ta21
    obtain ⟨rfl, bx0, bx1, bx2, ex1, ex2, ta10, ta11, ta20, ta21, bk0⟩ := hcut
    have f0 := (bx0.2 0 _ rfl).1
    have f1 := (bx0.2 1 _ rfl).1
    have f2 := (bx0.2 2 _ rfl).1
    have f3 := (bx0.2 3 _ rfl).1
    have f4 := (bx1.2 0 _ rfl).1
    have f5 := (bx1.2 1 _ rfl).1
    have f6 := (bx2.2 0 _ rfl).1
    have f7 := (bx2.2 1 _ rfl).1
    have g0 := True.intro
    have g1 := True.intro
    have g2 := True.intro
    have g3 := True.intro
    have g4 := (ex1.2 0 _ rfl).1
    have g5 := (ex1.2 1 _ rfl).1
    have g6 := (ex2.2 0 _ rfl).1
    have g7 := (ex2.2 1 _ rfl).1
    go_upto_region 20 with (fail)
    go_cut [88] (fun sv wx => sv = .bool false ∧ Box wx (w.heap.size) [.int .i64 p00, .int .i64 p01, .slice a00 l00 c00, .slice a01 l01 c01] ∧ Box wx (w.heap.size + 1) [.slice a10 l10 c10, .slice a11 l11 c11] ∧ Box wx (w.heap.size + 1 + 1) [.slice a20 l20 c20, .slice a21 l21 c21] ∧ Box wx wy2.heap.size [.slice Ba20 l20 l20, .slice Ba21 l21 l21] ∧ SlV (Value.int .i64) wx Ba20 l20 x20 ∧ SlV (Value.int .i64) wx Ba21 l21 x21 ∧ Below w.heap.size w wx)
    case first =>
      go_region_with (first
        | (go_at_call 30
           refine (toP a10 l10 c10 x10 a11 l11 c11 x11 _ (HSa10.out.below bk0.drew) (HSa11.out.below bk0.drew) hla10 hla11).mono ?_
           rintro e we ⟨Ea10, Ea11, rfl, ua10, ua11, b⟩
           have bx0 := (Box.d1 bx0).below b
           have bx1 := (Box.d1 bx1).below b
           have bx2 := (Box.d1 bx2).below b
           have ex1 := (Box.d1 ex1).below b
           have ex2 := (Box.d1 ex2).below b
           have ta10 := (ta10.below (Below.refl _ _).drew).below b
           have ta11 := (ta11.below (Below.refl _ _).drew).below b
           have ta20 := (ta20.below (Below.refl _ _).drew).below b
           have ta21 := (ta21.below (Below.refl _ _).drew).below b
           have be : Below w.heap.size w we := below_to bk0.drew b
           have f0 := (bx0.2 0 _ rfl).1
           have f1 := (bx0.2 1 _ rfl).1
           have f2 := (bx0.2 2 _ rfl).1
           have f3 := (bx0.2 3 _ rfl).1
           have f4 := (bx1.2 0 _ rfl).1
           have f5 := (bx1.2 1 _ rfl).1
           have f6 := (bx2.2 0 _ rfl).1
           have f7 := (bx2.2 1 _ rfl).1
           have g4 := (ex1.2 0 _ rfl).1
           have g5 := (ex1.2 1 _ rfl).1
           have g6 := (ex2.2 0 _ rfl).1
           have g7 := (ex2.2 1 _ rfl).1)
        | (go_at_call 32
           refine (eqPSelf _ _ l10 _ _ x10 _ _ l11 _ _ x11 _ ta10 ua10 hla10 ta11 ua11 hla11).mono ?_
           rintro e wf ⟨rfl, b⟩
           have bx0 := bx0.below b
           have bx1 := bx1.below b
           have bx2 := bx2.below b
           have ex2 := ex2.below b
           have ta20 := ta20.below b
           have ta21 := ta21.below b
           have bf : Below w.heap.size w wf := below_to be b))
      all_goals (go_wp2_with fail; go_meet; exact ⟨rfl, bx0, bx1, bx2, ex2, ta20, ta21, bf⟩)
    case rest =>
    clear f0 f1 f2 f3 f4 f5 f6 f7
    clear g0 g1 g2 g3 g4 g5 g6 g7
    clear bx0 bx1 bx2 ex1 ex2 ta10 ta11 ta20 ta21
    obtain ⟨rfl, bx0, bx1, bx2, ex2, ta20, ta21, bk1⟩ := hcut
    have f0 := (bx0.2 0 _ rfl).1
    have f1 := (bx0.2 1 _ rfl).1
    have f2 := (bx0.2 2 _ rfl).1
    have f3 := (bx0.2 3 _ rfl).1
    have f4 := (bx1.2 0 _ rfl).1
    have f5 := (bx1.2 1 _ rfl).1
    have f6 := (bx2.2 0 _ rfl).1
    have f7 := (bx2.2 1 _ rfl).1
    have g0 := True.intro
    have g1 := True.intro
    have g2 := True.intro
    have g3 := True.intro
    have g4 := True.intro
    have g5 := True.intro
    have g6 := (ex2.2 0 _ rfl).1
    have g7 := (ex2.2 1 _ rfl).1
    go_upto_region 22 with (fail)
    go_cut [93] (fun sv wx => sv = .bool false ∧ Box wx (w.heap.size) [.int .i64 p00, .int .i64 p01, .slice a00 l00 c00, .slice a01 l01 c01] ∧ Box wx (w.heap.size + 1) [.slice a10 l10 c10, .slice a11 l11 c11] ∧ Box wx (w.heap.size + 1 + 1) [.slice a20 l20 c20, .slice a21 l21 c21] ∧ Below w.heap.size w wx)
    case first =>
      go_region_with (first
        | (go_at_call 30
           refine (toP a20 l20 c20 x20 a21 l21 c21 x21 _ (HSa20.out.below bk1.drew) (HSa21.out.below bk1.drew) hla20 hla21).mono ?_
           rintro e we ⟨Ea20, Ea21, rfl, ua20, ua21, b⟩
           have bx0 := (Box.d1 bx0).below b
           have bx1 := (Box.d1 bx1).below b
           have bx2 := (Box.d1 bx2).below b
           have ex2 := (Box.d1 ex2).below b
           have ta20 := (ta20.below (Below.refl _ _).drew).below b
           have ta21 := (ta21.below (Below.refl _ _).drew).below b
           have be : Below w.heap.size w we := below_to bk1.drew b
           have f0 := (bx0.2 0 _ rfl).1
           have f1 := (bx0.2 1 _ rfl).1
           have f2 := (bx0.2 2 _ rfl).1
           have f3 := (bx0.2 3 _ rfl).1
           have f4 := (bx1.2 0 _ rfl).1
           have f5 := (bx1.2 1 _ rfl).1
           have f6 := (bx2.2 0 _ rfl).1
           have f7 := (bx2.2 1 _ rfl).1
           have g6 := (ex2.2 0 _ rfl).1
           have g7 := (ex2.2 1 _ rfl).1)
        | (go_at_call 32
           refine (eqPSelf _ _ l20 _ _ x20 _ _ l21 _ _ x21 _ ta20 ua20 hla20 ta21 ua21 hla21).mono ?_
           rintro e wf ⟨rfl, b⟩
           have bx0 := bx0.below b
           have bx1 := bx1.below b
           have bx2 := bx2.below b
           have bf : Below w.heap.size w wf := below_to be b))
      all_goals (go_wp2_with fail; go_meet; exact ⟨rfl, bx0, bx1, bx2, bf⟩)
    case rest =>
    clear f0 f1 f2 f3 f4 f5 f6 f7
    clear g0 g1 g2 g3 g4 g5 g6 g7
    clear bx0 bx1 bx2 ex2 ta20 ta21
    obtain ⟨rfl, bx0, bx1, bx2, bk2⟩ := hcut
    go_wp2_with fail
    go_ret
    exact ⟨rfl, bk2⟩
end TryWalk
end Go.Proofs.Ytlbmmecjiopbbaa
