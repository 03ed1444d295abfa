/- The law FnExactPlayMachines, walked. No condition. -/
import Derived.Test.YtlbmmecjiopbbaaWp4
namespace Go.Proofs.Ytlbmmecjiopbbaa
open Go.RowKit Flo Sl Pg
set_option linter.unusedVariables false
namespace TryWalk
set_option maxRecDepth 100000 in
set_option maxHeartbeats 8000000 in
theorem fnExactPlayMachines (p00 : Int) (p01 : Int) (a00 : Option Addr) (l00 c00 : Nat) (x00 : List Int) (a01 : Option Addr) (l01 c01 : Nat) (x01 : List Int) (a10 : Option Addr) (l10 c10 : Nat) (x10 : List Int) (a11 : Option Addr) (l11 c11 : Nat) (x11 : List Int) (a20 : Option Addr) (l20 c20 : Nat) (x20 : List Int) (a21 : Option Addr) (l21 c21 : Nat) (x21 : List Int) (n3 : Int) (w : World) (hwp00 : (Lit.int .i64 p00).wf = true) (hwp01 : (Lit.int .i64 p01).wf = true) (hra00 : IsRow .i64 w a00 l00 c00 x00) (hra01 : IsRow .i64 w a01 l01 c01 x01) (hra10 : IsRow .i64 w a10 l10 c10 x10) (hra11 : IsRow .i64 w a11 l11 c11 x11) (hra20 : IsRow .i64 w a20 l20 c20 x20) (hra21 : IsRow .i64 w a21 l21 c21 x21) (hw3 : (Lit.int .i64 n3).wf = true) : Calls Try.prog 19 #[.agg #[.int .i64 p00, .int .i64 p01, .slice a00 l00 c00, .slice a01 l01 c01], .agg #[.slice a10 l10 c10, .slice a11 l11 c11], .agg #[.slice a20 l20 c20, .slice a21 l21 c21], .int .i64 n3] w (RetD true w) := by
  obtain ⟨hsa00, hva00, hma00⟩ := hra00
  have HSa00 := hid hsa00
  have HVa00 := hid hva00
  clear hsa00 hva00
  obtain ⟨hsa01, hva01, hma01⟩ := hra01
  have HSa01 := hid hsa01
  have HVa01 := hid hva01
  clear hsa01 hva01
  obtain ⟨hsa10, hva10, hma10⟩ := hra10
  have HSa10 := hid hsa10
  have HVa10 := hid hva10
  clear hsa10 hva10
  obtain ⟨hsa11, hva11, hma11⟩ := hra11
  have HSa11 := hid hsa11
  have HVa11 := hid hva11
  clear hsa11 hva11
  obtain ⟨hsa20, hva20, hma20⟩ := hra20
  have HSa20 := hid hsa20
  have HVa20 := hid hva20
  clear hsa20 hva20
  obtain ⟨hsa21, hva21, hma21⟩ := hra21
  have HSa21 := hid hsa21
  have HVa21 := hid hva21
  clear hsa21 hva21
  have HWp00 := hid hwp00
  clear hwp00
  have HWp01 := hid hwp01
  clear hwp01
  have HW3 := hid hw3
  clear hw3
  go_enter Try.func19, Try.ntmps19
  go_wp2_with fail
  refine (szGAny p00 p01 a00 l00 c00 a01 l01 c01 1048576 _ (Nat.le_refl _) hma00 hma01).mono ?_
  rintro e w1 ⟨r, rfl, b1, (⟨rfl, h1⟩ | ⟨rfl, h1⟩)⟩
  · have bw1 : Below w.heap.size w w1 := below_to (by repeat (first | exact Below.refl _ _ | with_reducible assumption | refine Below.alloc ?_ (by simp <;> omega) _)) b1
    go_wp2_with fail
    go_ret
    exact ⟨rfl, bw1⟩
  have bw1 : Below w.heap.size w w1 := below_to (by repeat (first | exact Below.refl _ _ | with_reducible assumption | refine Below.alloc ?_ (by simp <;> omega) _)) b1
  have bx0 : Box w1 (w.heap.size) [.int .i64 p00, .int .i64 p01, .slice a00 l00 c00, .slice a01 l01 c01] := (((show Box _ (w.heap.size) _ from by simpa using Box.new w [.int .i64 p00, .int .i64 p01, .slice a00 l00 c00, .slice a01 l01 c01] 41).al _).al _).below b1
  have bx1 : Box w1 (w.heap.size + 1) [.slice a10 l10 c10, .slice a11 l11 c11] := ((show Box _ (w.heap.size + 1) _ from by simpa using Box.new (w.alloc (.cells #[.int .i64 p00, .int .i64 p01, .slice a00 l00 c00, .slice a01 l01 c01] 41)) [.slice a10 l10 c10, .slice a11 l11 c11] 33).al _).below b1
  have bx2 : Box w1 (w.heap.size + 1 + 1) [.slice a20 l20 c20, .slice a21 l21 c21] := (show Box _ (w.heap.size + 1 + 1) _ from by simpa using Box.new ((w.alloc (.cells #[.int .i64 p00, .int .i64 p01, .slice a00 l00 c00, .slice a01 l01 c01] 41)).alloc (.cells #[.slice a10 l10 c10, .slice a11 l11 c11] 33)) [.slice a20 l20 c20, .slice a21 l21 c21] 33).below b1
  have hla00 : l00 ≤ 1048576 := by omega
  have hla01 : l01 ≤ 1048576 := by omega
  obtain ⟨m1, hm1⟩ : ∃ m, 1048576 - (l00 + l01) = m := ⟨_, rfl⟩
  have hmm1 : m1 ≤ 1048576 := by omega
  rw [hm1]
  clear b1 h1 hm1
  have f0 := (bx0.2 0 _ rfl).1
  have f1 := (bx0.2 1 _ rfl).1
  have f2 := (bx0.2 2 _ rfl).1
  have f3 := (bx0.2 3 _ rfl).1
  have f4 := (bx1.2 0 _ rfl).1
  have f5 := (bx1.2 1 _ rfl).1
  have f6 := (bx2.2 0 _ rfl).1
  have f7 := (bx2.2 1 _ rfl).1
  go_wp2_with fail
  refine (szPAny a10 l10 c10 a11 l11 c11 m1 _ hmm1 hma10 hma11).mono ?_
  rintro e w2 ⟨r, rfl, b2, (⟨rfl, h2⟩ | ⟨rfl, h2⟩)⟩
  · have bw2 : Below w.heap.size w w2 := below_to bw1 b2
    go_wp2_with fail
    go_ret
    exact ⟨rfl, bw2⟩
  clear f0 f1 f2 f3 f4 f5 f6 f7
  have bx0 := bx0.below b2
  have bx1 := bx1.below b2
  have bx2 := bx2.below b2
  have bw2 : Below w.heap.size w w2 := below_to bw1 b2
  have hla10 : l10 ≤ 1048576 := by omega
  have hla11 : l11 ≤ 1048576 := by omega
  obtain ⟨m2, hm2⟩ : ∃ m, m1 - (l10 + l11) = m := ⟨_, rfl⟩
  have hmm2 : m2 ≤ 1048576 := by omega
  rw [hm2]
  clear b2 h2 hm2
  have f0 := (bx0.2 0 _ rfl).1
  have f1 := (bx0.2 1 _ rfl).1
  have f2 := (bx0.2 2 _ rfl).1
  have f3 := (bx0.2 3 _ rfl).1
  have f4 := (bx1.2 0 _ rfl).1
  have f5 := (bx1.2 1 _ rfl).1
  have f6 := (bx2.2 0 _ rfl).1
  have f7 := (bx2.2 1 _ rfl).1
  go_wp2_with fail
  refine (szPAny a20 l20 c20 a21 l21 c21 m2 _ hmm2 hma20 hma21).mono ?_
  rintro e w3 ⟨r, rfl, b3, (⟨rfl, h3⟩ | ⟨rfl, h3⟩)⟩
  · have bw3 : Below w.heap.size w w3 := below_to bw2 b3
    go_wp2_with fail
    go_ret
    exact ⟨rfl, bw3⟩
  clear f0 f1 f2 f3 f4 f5 f6 f7
  have bx0 := bx0.below b3
  have bx1 := bx1.below b3
  have bx2 := bx2.below b3
  have bw3 : Below w.heap.size w w3 := below_to bw2 b3
  have hla20 : l20 ≤ 1048576 := by omega
  have hla21 : l21 ≤ 1048576 := by omega
  obtain ⟨m3, hm3⟩ : ∃ m, m2 - (l20 + l21) = m := ⟨_, rfl⟩
  have hmm3 : m3 ≤ 1048576 := by omega
  rw [hm3]
  clear b3 h3 hm3
  obtain ⟨F, nF, D, hnF, hboth⟩ := bothPlay p00 p01 HWp00.out HWp01.out l00 x00 hla00 HVa00.out l01 x01 hla01 HVa01.out l10 x10 hla10 HVa10.out l11 x11 hla11 HVa11.out l20 x20 hla20 HVa20.out l21 x21 hla21 HVa21.out n3 HW3.out
  have HBOTH := hid hboth
  clear hboth
  have hDD : (D != D) = false := by simp
  have f0 := (bx0.2 0 _ rfl).1
  have f1 := (bx0.2 1 _ rfl).1
  have f2 := (bx0.2 2 _ rfl).1
  have f3 := (bx0.2 3 _ rfl).1
  have f4 := (bx1.2 0 _ rfl).1
  have f5 := (bx1.2 1 _ rfl).1
  have f6 := (bx2.2 0 _ rfl).1
  have f7 := (bx2.2 1 _ rfl).1
  go_upto_region 11 with (fail)
  go_cut [10,11] (fun sv0 sv1 wx => ∃ aw cw, sv0 = .slice aw nF cw ∧ sv1 = .bool D ∧ OwB 0 wx.heap.size wx aw nF F ∧ Box wx (w.heap.size) [.int .i64 p00, .int .i64 p01, .slice a00 l00 c00, .slice a01 l01 c01] ∧ Box wx (w.heap.size + 1) [.slice a10 l10 c10, .slice a11 l11 c11] ∧ Box wx (w.heap.size + 1 + 1) [.slice a20 l20 c20, .slice a21 l21 c21] ∧ Below w.heap.size w wx)
  case first =>
    have HQa00 := hid (HSa00.out.below bw3)
    have HQa01 := hid (HSa01.out.below bw3)
    have HQa10 := hid (HSa10.out.below bw3)
    have HQa11 := hid (HSa11.out.below bw3)
    have HQa20 := hid (HSa20.out.below bw3)
    have HQa21 := hid (HSa21.out.below bw3)
    have HKK : Hid (∀ w', Below w3.heap.size w3 w' → Below w3.heap.size w3 w' ∧ w'.cell? ⟨w.heap.size, 0, none⟩ = some (.int .i64 p00) ∧ w'.cell? ⟨w.heap.size, 1, none⟩ = some (.int .i64 p01) ∧ w'.cell? ⟨w.heap.size, 2, none⟩ = some (.slice a00 l00 c00) ∧ w'.cell? ⟨w.heap.size, 3, none⟩ = some (.slice a01 l01 c01) ∧ w'.cell? ⟨w.heap.size + 1, 0, none⟩ = some (.slice a10 l10 c10) ∧ w'.cell? ⟨w.heap.size + 1, 1, none⟩ = some (.slice a11 l11 c11) ∧ w'.cell? ⟨w.heap.size + 1 + 1, 0, none⟩ = some (.slice a20 l20 c20) ∧ w'.cell? ⟨w.heap.size + 1 + 1, 1, none⟩ = some (.slice a21 l21 c21)) := hid (fun w' b => ⟨b, ((bx0.below b).2 0 _ rfl).1, ((bx0.below b).2 1 _ rfl).1, ((bx0.below b).2 2 _ rfl).1, ((bx0.below b).2 3 _ rfl).1, ((bx1.below b).2 0 _ rfl).1, ((bx1.below b).2 1 _ rfl).1, ((bx2.below b).2 0 _ rfl).1, ((bx2.below b).2 1 _ rfl).1⟩)
    go_region_held3 (fun w' => Below w3.heap.size w3 w' ∧ w'.cell? ⟨w.heap.size, 0, none⟩ = some (.int .i64 p00) ∧ w'.cell? ⟨w.heap.size, 1, none⟩ = some (.int .i64 p01) ∧ w'.cell? ⟨w.heap.size, 2, none⟩ = some (.slice a00 l00 c00) ∧ w'.cell? ⟨w.heap.size, 3, none⟩ = some (.slice a01 l01 c01) ∧ w'.cell? ⟨w.heap.size + 1, 0, none⟩ = some (.slice a10 l10 c10) ∧ w'.cell? ⟨w.heap.size + 1, 1, none⟩ = some (.slice a11 l11 c11) ∧ w'.cell? ⟨w.heap.size + 1 + 1, 0, none⟩ = some (.slice a20 l20 c20) ∧ w'.cell? ⟨w.heap.size + 1 + 1, 1, none⟩ = some (.slice a21 l21 c21)) ((go_split_ands; exact HKK.out _ (by first | with_reducible assumption | with_reducible exact (Below.refl _ _).drew | with_reducible exact Below.refl _ _ | (refine Below.drew ?_; with_reducible assumption))))
      (first
      | (go_at_call 30
         with_reducible refine (toP a20 l20 c20 x20 a21 l21 c21 x21 _ (HQa20.out.below bq01) (HQa21.out.below bq01) hla20 hla21).mono ?_
         rintro e wq012 ⟨Aa20, Aa21, rfl, sq012a20, sq012a21, b⟩
         have bq012 : Below w3.heap.size w3 wq012 := below_to bq01 b
         have sq012a00 := sq01a00.below b
         have sq012a01 := sq01a01.below b
         have sq012a10 := sq01a10.below b
         have sq012a11 := sq01a11.below b)
      | (go_at_call 30
         with_reducible refine (toP a10 l10 c10 x10 a11 l11 c11 x11 _ (HQa10.out.below bq02) (HQa11.out.below bq02) hla10 hla11).mono ?_
         rintro e wq012 ⟨Aa10, Aa11, rfl, sq012a10, sq012a11, b⟩
         have bq012 : Below w3.heap.size w3 wq012 := below_to bq02 b
         have sq012a00 := sq02a00.below b
         have sq012a01 := sq02a01.below b
         have sq012a20 := sq02a20.below b
         have sq012a21 := sq02a21.below b)
      | (go_at_call 35
         with_reducible refine (toG p00 p01 a00 l00 c00 x00 a01 l01 c01 x01 _ (HQa00.out.below bq12) (HQa01.out.below bq12) hla00 hla01).mono ?_
         rintro e wq012 ⟨Aa00, Aa01, rfl, sq012a00, sq012a01, b⟩
         have bq012 : Below w3.heap.size w3 wq012 := below_to bq12 b
         have sq012a10 := sq12a10.below b
         have sq012a11 := sq12a11.below b
         have sq012a20 := sq12a20.below b
         have sq012a21 := sq12a21.below b)
      | (go_at_call 30
         with_reducible refine (toP a10 l10 c10 x10 a11 l11 c11 x11 _ (HQa10.out.below bq0) (HQa11.out.below bq0) hla10 hla11).mono ?_
         rintro e wq01 ⟨Aa10, Aa11, rfl, sq01a10, sq01a11, b⟩
         have bq01 : Below w3.heap.size w3 wq01 := below_to bq0 b
         have sq01a00 := sq0a00.below b
         have sq01a01 := sq0a01.below b)
      | (go_at_call 30
         with_reducible refine (toP a20 l20 c20 x20 a21 l21 c21 x21 _ (HQa20.out.below bq0) (HQa21.out.below bq0) hla20 hla21).mono ?_
         rintro e wq02 ⟨Aa20, Aa21, rfl, sq02a20, sq02a21, b⟩
         have bq02 : Below w3.heap.size w3 wq02 := below_to bq0 b
         have sq02a00 := sq0a00.below b
         have sq02a01 := sq0a01.below b)
      | (go_at_call 35
         with_reducible refine (toG p00 p01 a00 l00 c00 x00 a01 l01 c01 x01 _ (HQa00.out.below bq1) (HQa01.out.below bq1) hla00 hla01).mono ?_
         rintro e wq01 ⟨Aa00, Aa01, rfl, sq01a00, sq01a01, b⟩
         have bq01 : Below w3.heap.size w3 wq01 := below_to bq1 b
         have sq01a10 := sq1a10.below b
         have sq01a11 := sq1a11.below b)
      | (go_at_call 30
         with_reducible refine (toP a20 l20 c20 x20 a21 l21 c21 x21 _ (HQa20.out.below bq1) (HQa21.out.below bq1) hla20 hla21).mono ?_
         rintro e wq12 ⟨Aa20, Aa21, rfl, sq12a20, sq12a21, b⟩
         have bq12 : Below w3.heap.size w3 wq12 := below_to bq1 b
         have sq12a10 := sq1a10.below b
         have sq12a11 := sq1a11.below b)
      | (go_at_call 35
         with_reducible refine (toG p00 p01 a00 l00 c00 x00 a01 l01 c01 x01 _ (HQa00.out.below bq2) (HQa01.out.below bq2) hla00 hla01).mono ?_
         rintro e wq02 ⟨Aa00, Aa01, rfl, sq02a00, sq02a01, b⟩
         have bq02 : Below w3.heap.size w3 wq02 := below_to bq2 b
         have sq02a20 := sq2a20.below b
         have sq02a21 := sq2a21.below b)
      | (go_at_call 30
         with_reducible refine (toP a10 l10 c10 x10 a11 l11 c11 x11 _ (HQa10.out.below bq2) (HQa11.out.below bq2) hla10 hla11).mono ?_
         rintro e wq12 ⟨Aa10, Aa11, rfl, sq12a10, sq12a11, b⟩
         have bq12 : Below w3.heap.size w3 wq12 := below_to bq2 b
         have sq12a20 := sq2a20.below b
         have sq12a21 := sq2a21.below b)
      | (go_at_call 35
         with_reducible refine (toG p00 p01 a00 l00 c00 x00 a01 l01 c01 x01 _ (HQa00.out.below (Below.refl w3.heap.size w3).drew) (HQa01.out.below (Below.refl w3.heap.size w3).drew) hla00 hla01).mono ?_
         rintro e wq0 ⟨Aa00, Aa01, rfl, sq0a00, sq0a01, b⟩
         have bq0 : Below w3.heap.size w3 wq0 := below_to (Below.refl w3.heap.size w3).drew b)
      | (go_at_call 30
         with_reducible refine (toP a10 l10 c10 x10 a11 l11 c11 x11 _ (HQa10.out.below (Below.refl w3.heap.size w3).drew) (HQa11.out.below (Below.refl w3.heap.size w3).drew) hla10 hla11).mono ?_
         rintro e wq1 ⟨Aa10, Aa11, rfl, sq1a10, sq1a11, b⟩
         have bq1 : Below w3.heap.size w3 wq1 := below_to (Below.refl w3.heap.size w3).drew b)
      | (go_at_call 30
         with_reducible refine (toP a20 l20 c20 x20 a21 l21 c21 x21 _ (HQa20.out.below (Below.refl w3.heap.size w3).drew) (HQa21.out.below (Below.refl w3.heap.size w3).drew) hla20 hla21).mono ?_
         rintro e wq2 ⟨Aa20, Aa21, rfl, sq2a20, sq2a21, b⟩
         have bq2 : Below w3.heap.size w3 wq2 := below_to (Below.refl w3.heap.size w3).drew b)
      | (go_at_call 71
         refine (HBOTH.out _ _ _ _ _ _ _ _ _ _ _ _ _ sq012a00 sq012a01 sq012a10 sq012a11 sq012a20 sq012a21).1.mono ?_
         rintro e wz ⟨az, cz, rfl, oz, b⟩
         have bz : Below w3.heap.size w3 wz := below_to bq012 b))
    all_goals (go_wp2_with fail; go_meet; exact ⟨az, cz, rfl, rfl, oz.mono (Nat.zero_le _) (Nat.le_refl _), bx0.below bz, bx1.below bz, bx2.below bz, below_to bw3 bz⟩)
  case rest =>
    clear f0 f1 f2 f3 f4 f5 f6 f7
    clear bx0 bx1 bx2
    obtain ⟨aw, cw, rfl, rfl, ow0, bx0, bx1, bx2, bc⟩ := hcut
    rename World => wk
    have HNB := hid bx2.1
    obtain ⟨NW, hNW⟩ : ∃ N, wk.heap.size = N := ⟨_, rfl⟩
    rw [hNW] at ow0
    have HNW := hid hNW
    clear hNW
    have f0 := (bx0.2 0 _ rfl).1
    have f1 := (bx0.2 1 _ rfl).1
    have f2 := (bx0.2 2 _ rfl).1
    have f3 := (bx0.2 3 _ rfl).1
    have f4 := (bx1.2 0 _ rfl).1
    have f5 := (bx1.2 1 _ rfl).1
    have f6 := (bx2.2 0 _ rfl).1
    have f7 := (bx2.2 1 _ rfl).1
    go_wp2_with fail
    refine (toGo p00 p01 a00 l00 c00 x00 a01 l01 c01 x01 _ (HSa00.out.below bc) (HSa01.out.below bc) hla00 hla01).mono ?_
    rintro e wy0 ⟨Ba00, Ba01, md0, rfl, ta00, ta01, hlo0, hmd0, b⟩
    clear f0 f1 f2 f3 f4 f5 f6 f7
    have HLO0 := hid hlo0
    have HMD0 := hid hmd0
    have HSZ0 := hid b.size
    clear hlo0 hmd0
    have bx0 := bx0.below b
    have bx1 := bx1.below b
    have bx2 := bx2.below b
    have ow0 := ow0.below b
    have by0 : Below w.heap.size w wy0 := below_to bc b
    clear b
    have hal : Below wy0.heap.size wy0 (wy0.alloc (.cells #[.int .i64 p00, .int .i64 p01, .slice Ba00 l00 l00, .slice Ba01 l01 l01] 44)) := Below.alloc (Below.refl _ _) (Nat.le_refl _) _
    have HAL0 : Hid ((wy0.alloc (.cells #[.int .i64 p00, .int .i64 p01, .slice Ba00 l00 l00, .slice Ba01 l01 l01] 44)).heap.size = wy0.heap.size + 1) := hid (by simp)
    have bx0 := bx0.below hal
    have bx1 := bx1.below hal
    have bx2 := bx2.below hal
    have ow0 := ow0.below hal
    have ex0 : Box (wy0.alloc (.cells #[.int .i64 p00, .int .i64 p01, .slice Ba00 l00 l00, .slice Ba01 l01 l01] 44)) wy0.heap.size [.int .i64 p00, .int .i64 p01, .slice Ba00 l00 l00, .slice Ba01 l01 l01] := Box.new _ _ _
    have ta00 := ta00.below hal
    have ta01 := ta01.below hal
    have byl0 : Below w.heap.size w (wy0.alloc (.cells #[.int .i64 p00, .int .i64 p01, .slice Ba00 l00 l00, .slice Ba01 l01 l01] 44)) := below_to by0 hal
    clear hal
    have f0 := (bx0.2 0 _ rfl).1
    have f1 := (bx0.2 1 _ rfl).1
    have f2 := (bx0.2 2 _ rfl).1
    have f3 := (bx0.2 3 _ rfl).1
    have f4 := (bx1.2 0 _ rfl).1
    have f5 := (bx1.2 1 _ rfl).1
    have f6 := (bx2.2 0 _ rfl).1
    have f7 := (bx2.2 1 _ rfl).1
    go_wp2_with fail
    refine (toPo a10 l10 c10 x10 a11 l11 c11 x11 _ (HSa10.out.below byl0) (HSa11.out.below byl0) hla10 hla11).mono ?_
    rintro e wy1 ⟨Ba10, Ba11, md1, rfl, ta10, ta11, hlo1, hmd1, b⟩
    clear f0 f1 f2 f3 f4 f5 f6 f7
    have HLO1 := hid hlo1
    have HMD1 := hid hmd1
    have HSZ1 := hid b.size
    clear hlo1 hmd1
    have bx0 := bx0.below b
    have bx1 := bx1.below b
    have bx2 := bx2.below b
    have ow0 := ow0.below b
    have ex0 := ex0.below b
    have ta00 := ta00.below b
    have ta01 := ta01.below b
    have by1 : Below w.heap.size w wy1 := below_to byl0 b
    clear b
    have hal : Below wy1.heap.size wy1 (wy1.alloc (.cells #[.slice Ba10 l10 l10, .slice Ba11 l11 l11] 36)) := Below.alloc (Below.refl _ _) (Nat.le_refl _) _
    have HAL1 : Hid ((wy1.alloc (.cells #[.slice Ba10 l10 l10, .slice Ba11 l11 l11] 36)).heap.size = wy1.heap.size + 1) := hid (by simp)
    have bx0 := bx0.below hal
    have bx1 := bx1.below hal
    have bx2 := bx2.below hal
    have ow0 := ow0.below hal
    have ex0 := ex0.below hal
    have ex1 : Box (wy1.alloc (.cells #[.slice Ba10 l10 l10, .slice Ba11 l11 l11] 36)) wy1.heap.size [.slice Ba10 l10 l10, .slice Ba11 l11 l11] := Box.new _ _ _
    have ta00 := ta00.below hal
    have ta01 := ta01.below hal
    have ta10 := ta10.below hal
    have ta11 := ta11.below hal
    have byl1 : Below w.heap.size w (wy1.alloc (.cells #[.slice Ba10 l10 l10, .slice Ba11 l11 l11] 36)) := below_to by1 hal
    clear hal
    have f0 := (bx0.2 0 _ rfl).1
    have f1 := (bx0.2 1 _ rfl).1
    have f2 := (bx0.2 2 _ rfl).1
    have f3 := (bx0.2 3 _ rfl).1
    have f4 := (bx1.2 0 _ rfl).1
    have f5 := (bx1.2 1 _ rfl).1
    have f6 := (bx2.2 0 _ rfl).1
    have f7 := (bx2.2 1 _ rfl).1
    go_wp2_with fail
    refine (toPo a20 l20 c20 x20 a21 l21 c21 x21 _ (HSa20.out.below byl1) (HSa21.out.below byl1) hla20 hla21).mono ?_
    rintro e wy2 ⟨Ba20, Ba21, md2, rfl, ta20, ta21, hlo2, hmd2, b⟩
    clear f0 f1 f2 f3 f4 f5 f6 f7
    have HLO2 := hid hlo2
    have HMD2 := hid hmd2
    have HSZ2 := hid b.size
    clear hlo2 hmd2
    have bx0 := bx0.below b
    have bx1 := bx1.below b
    have bx2 := bx2.below b
    have ow0 := ow0.below b
    have ex0 := ex0.below b
    have ta00 := ta00.below b
    have ta01 := ta01.below b
    have ex1 := ex1.below b
    have ta10 := ta10.below b
    have ta11 := ta11.below b
    have by2 : Below w.heap.size w wy2 := below_to byl1 b
    clear b
    have hal : Below wy2.heap.size wy2 (wy2.alloc (.cells #[.slice Ba20 l20 l20, .slice Ba21 l21 l21] 36)) := Below.alloc (Below.refl _ _) (Nat.le_refl _) _
    have HAL2 : Hid ((wy2.alloc (.cells #[.slice Ba20 l20 l20, .slice Ba21 l21 l21] 36)).heap.size = wy2.heap.size + 1) := hid (by simp)
    have bx0 := bx0.below hal
    have bx1 := bx1.below hal
    have bx2 := bx2.below hal
    have ow0 := ow0.below hal
    have ex0 := ex0.below hal
    have ex1 := ex1.below hal
    have ex2 : Box (wy2.alloc (.cells #[.slice Ba20 l20 l20, .slice Ba21 l21 l21] 36)) wy2.heap.size [.slice Ba20 l20 l20, .slice Ba21 l21 l21] := Box.new _ _ _
    have ta00 := ta00.below hal
    have ta01 := ta01.below hal
    have ta10 := ta10.below hal
    have ta11 := ta11.below hal
    have ta20 := ta20.below hal
    have ta21 := ta21.below hal
    have byl2 : Below w.heap.size w (wy2.alloc (.cells #[.slice Ba20 l20 l20, .slice Ba21 l21 l21] 36)) := below_to by2 hal
    clear hal
    have g0 := (ex0.2 0 _ rfl).1
    have g1 := (ex0.2 1 _ rfl).1
    have g2 := (ex0.2 2 _ rfl).1
    have g3 := (ex0.2 3 _ rfl).1
    have g4 := (ex1.2 0 _ rfl).1
    have g5 := (ex1.2 1 _ rfl).1
    have g6 := (ex2.2 0 _ rfl).1
    have g7 := (ex2.2 1 _ rfl).1
    go_wp2_with fail
    refine (HBOTH.out _ _ _ _ _ _ _ _ _ _ _ _ _ ta00.slv ta01.slv ta10.slv ta11.slv ta20.slv ta21.slv).2.mono ?_
    rintro e wi ⟨ag, cg, rfl, og, b⟩
    clear g0 g1 g2 g3 g4 g5 g6 g7
    have HSI := hid b.size
    have bx0 := bx0.below b
    have bx1 := bx1.below b
    have bx2 := bx2.below b
    have ow0 := ow0.below b
    have ex0 := ex0.below b
    have ta00 := ta00.below b
    have ta01 := ta01.below b
    have ex1 := ex1.below b
    have ta10 := ta10.below b
    have ta11 := ta11.below b
    have ex2 := ex2.below b
    have ta20 := ta20.below b
    have ta21 := ta21.below b
    have bi : Below w.heap.size w wi := below_to byl2 b
    clear b
    obtain ⟨G0, hG0⟩ : ∃ N, (wy2.alloc (.cells #[.slice Ba20 l20 l20, .slice Ba21 l21 l21] 36)).heap.size = N := ⟨_, rfl⟩
    obtain ⟨GH, hGH⟩ : ∃ N, wi.heap.size = N := ⟨_, rfl⟩
    rw [hG0, hGH] at og
    have HG0 := hid hG0
    have HGH := hid hGH
    clear hG0 hGH
    go_wp2_with fail
    refine (eqISelf _ _ nF _ _ F _ og.slv ow0.slv hnF).mono ?_
    rintro e wj ⟨rfl, b⟩
    have bx0 := bx0.below b
    have bx1 := bx1.below b
    have bx2 := bx2.below b
    have ow0 := ow0.below b
    have ex0 := ex0.below b
    have ta00 := ta00.below b
    have ta01 := ta01.below b
    have ex1 := ex1.below b
    have ta10 := ta10.below b
    have ta11 := ta11.below b
    have ex2 := ex2.below b
    have ta20 := ta20.below b
    have ta21 := ta21.below b
    have og := og.below b
    have bj : Below w.heap.size w wj := below_to bi b
    clear b
    have f0 := (bx0.2 0 _ rfl).1
    have f1 := (bx0.2 1 _ rfl).1
    have f2 := (bx0.2 2 _ rfl).1
    have f3 := (bx0.2 3 _ rfl).1
    have f4 := (bx1.2 0 _ rfl).1
    have f5 := (bx1.2 1 _ rfl).1
    have f6 := (bx2.2 0 _ rfl).1
    have f7 := (bx2.2 1 _ rfl).1
    have g0 := (ex0.2 0 _ rfl).1
    have g1 := (ex0.2 1 _ rfl).1
    have g2 := (ex0.2 2 _ rfl).1
    have g3 := (ex0.2 3 _ rfl).1
    have g4 := (ex1.2 0 _ rfl).1
    have g5 := (ex1.2 1 _ rfl).1
    have g6 := (ex2.2 0 _ rfl).1
    have g7 := (ex2.2 1 _ rfl).1
    go_upto_region 18 with (fail)
    go_cut [75] (fun sv wx => sv = .bool false ∧ Box wx (w.heap.size) [.int .i64 p00, .int .i64 p01, .slice a00 l00 c00, .slice a01 l01 c01] ∧ Box wx (w.heap.size + 1) [.slice a10 l10 c10, .slice a11 l11 c11] ∧ Box wx (w.heap.size + 1 + 1) [.slice a20 l20 c20, .slice a21 l21 c21] ∧ OwB 0 NW wx aw nF F ∧ Box wx wy0.heap.size [.int .i64 p00, .int .i64 p01, .slice Ba00 l00 l00, .slice Ba01 l01 l01] ∧ Box wx wy1.heap.size [.slice Ba10 l10 l10, .slice Ba11 l11 l11] ∧ Box wx wy2.heap.size [.slice Ba20 l20 l20, .slice Ba21 l21 l21] ∧ OwB wk.heap.size md0 wx Ba00 l00 x00 ∧ OwB md0 wy0.heap.size wx Ba01 l01 x01 ∧ OwB (wy0.alloc (.cells #[.int .i64 p00, .int .i64 p01, .slice Ba00 l00 l00, .slice Ba01 l01 l01] 44)).heap.size md1 wx Ba10 l10 x10 ∧ OwB md1 wy1.heap.size wx Ba11 l11 x11 ∧ OwB (wy1.alloc (.cells #[.slice Ba10 l10 l10, .slice Ba11 l11 l11] 36)).heap.size md2 wx Ba20 l20 x20 ∧ OwB md2 wy2.heap.size wx Ba21 l21 x21 ∧ OwB G0 GH wx ag nF F ∧ Below w.heap.size w wx)
    case first =>
      go_region_with (first
        | (go_at_call 35
           with_reducible refine (toG p00 p01 a00 l00 c00 x00 a01 l01 c01 x01 _ (HSa00.out.below bj.drew) (HSa01.out.below bj.drew) hla00 hla01).mono ?_
           rintro e we ⟨Ea00, Ea01, rfl, ua00, ua01, b⟩
           have be : Below wj.heap.size wj we := below_to (Below.refl wj.heap.size wj).drew b
           have f0 := ((bx0.below be).2 0 _ rfl).1
           have g0 := ((ex0.below be).2 0 _ rfl).1
           have f1 := ((bx0.below be).2 1 _ rfl).1
           have g1 := ((ex0.below be).2 1 _ rfl).1
           have f2 := ((bx0.below be).2 2 _ rfl).1
           have g2 := ((ex0.below be).2 2 _ rfl).1
           have f3 := ((bx0.below be).2 3 _ rfl).1
           have g3 := ((ex0.below be).2 3 _ rfl).1
           have f4 := ((bx1.below be).2 0 _ rfl).1
           have g4 := ((ex1.below be).2 0 _ rfl).1
           have f5 := ((bx1.below be).2 1 _ rfl).1
           have g5 := ((ex1.below be).2 1 _ rfl).1
           have f6 := ((bx2.below be).2 0 _ rfl).1
           have g6 := ((ex2.below be).2 0 _ rfl).1
           have f7 := ((bx2.below be).2 1 _ rfl).1
           have g7 := ((ex2.below be).2 1 _ rfl).1)
        | (go_at_call 37
           refine (eqGSelf p00 p01 _ _ l00 _ _ x00 _ _ l01 _ _ x01 _ (ta00.below be).slv ua00 hla00 (ta01.below be).slv ua01 hla01).mono ?_
           rintro e wf ⟨rfl, b⟩
           have bf : Below wj.heap.size wj wf := below_to be b))
      all_goals (go_wp2_with fail; go_meet; exact ⟨rfl, bx0.below bf, bx1.below bf, bx2.below bf, ow0.below bf, ex0.below bf, ex1.below bf, ex2.below bf, ta00.below bf, ta01.below bf, ta10.below bf, ta11.below bf, ta20.below bf, ta21.below bf, og.below bf, below_to bj bf⟩)
    case rest =>
    clear f0 f1 f2 f3 f4 f5 f6 f7
    clear g0 g1 g2 g3 g4 g5 g6 g7
    clear bx0 bx1 bx2 ow0 ex0 ex1 ex2 ta00 ta01 ta10 ta11 ta20 ta21 og
    obtain ⟨rfl, bx0, bx1, bx2, ow0, ex0, ex1, ex2, ta00, ta01, ta10, ta11, ta20, ta21, og, bk0⟩ := hcut
    rename World => wv0
    have f0 := (bx0.2 0 _ rfl).1
    have f1 := (bx0.2 1 _ rfl).1
    have f2 := (bx0.2 2 _ rfl).1
    have f3 := (bx0.2 3 _ rfl).1
    have f4 := (bx1.2 0 _ rfl).1
    have f5 := (bx1.2 1 _ rfl).1
    have f6 := (bx2.2 0 _ rfl).1
    have f7 := (bx2.2 1 _ rfl).1
    have g0 := (ex0.2 0 _ rfl).1
    have g1 := (ex0.2 1 _ rfl).1
    have g2 := (ex0.2 2 _ rfl).1
    have g3 := (ex0.2 3 _ rfl).1
    have g4 := (ex1.2 0 _ rfl).1
    have g5 := (ex1.2 1 _ rfl).1
    have g6 := (ex2.2 0 _ rfl).1
    have g7 := (ex2.2 1 _ rfl).1
    go_upto_region 20 with (fail)
    go_cut [80] (fun sv wx => sv = .bool false ∧ Box wx (w.heap.size) [.int .i64 p00, .int .i64 p01, .slice a00 l00 c00, .slice a01 l01 c01] ∧ Box wx (w.heap.size + 1) [.slice a10 l10 c10, .slice a11 l11 c11] ∧ Box wx (w.heap.size + 1 + 1) [.slice a20 l20 c20, .slice a21 l21 c21] ∧ OwB 0 NW wx aw nF F ∧ Box wx wy0.heap.size [.int .i64 p00, .int .i64 p01, .slice Ba00 l00 l00, .slice Ba01 l01 l01] ∧ Box wx wy1.heap.size [.slice Ba10 l10 l10, .slice Ba11 l11 l11] ∧ Box wx wy2.heap.size [.slice Ba20 l20 l20, .slice Ba21 l21 l21] ∧ OwB wk.heap.size md0 wx Ba00 l00 x00 ∧ OwB md0 wy0.heap.size wx Ba01 l01 x01 ∧ OwB (wy0.alloc (.cells #[.int .i64 p00, .int .i64 p01, .slice Ba00 l00 l00, .slice Ba01 l01 l01] 44)).heap.size md1 wx Ba10 l10 x10 ∧ OwB md1 wy1.heap.size wx Ba11 l11 x11 ∧ OwB (wy1.alloc (.cells #[.slice Ba10 l10 l10, .slice Ba11 l11 l11] 36)).heap.size md2 wx Ba20 l20 x20 ∧ OwB md2 wy2.heap.size wx Ba21 l21 x21 ∧ OwB G0 GH wx ag nF F ∧ Below w.heap.size w wx)
    case first =>
      go_region_with (first
        | (go_at_call 30
           with_reducible refine (toP a10 l10 c10 x10 a11 l11 c11 x11 _ (HSa10.out.below bk0.drew) (HSa11.out.below bk0.drew) hla10 hla11).mono ?_
           rintro e we ⟨Ea10, Ea11, rfl, ua10, ua11, b⟩
           have be : Below wv0.heap.size wv0 we := below_to (Below.refl wv0.heap.size wv0).drew b
           have f0 := ((bx0.below be).2 0 _ rfl).1
           have g0 := ((ex0.below be).2 0 _ rfl).1
           have f1 := ((bx0.below be).2 1 _ rfl).1
           have g1 := ((ex0.below be).2 1 _ rfl).1
           have f2 := ((bx0.below be).2 2 _ rfl).1
           have g2 := ((ex0.below be).2 2 _ rfl).1
           have f3 := ((bx0.below be).2 3 _ rfl).1
           have g3 := ((ex0.below be).2 3 _ rfl).1
           have f4 := ((bx1.below be).2 0 _ rfl).1
           have g4 := ((ex1.below be).2 0 _ rfl).1
           have f5 := ((bx1.below be).2 1 _ rfl).1
           have g5 := ((ex1.below be).2 1 _ rfl).1
           have f6 := ((bx2.below be).2 0 _ rfl).1
           have g6 := ((ex2.below be).2 0 _ rfl).1
           have f7 := ((bx2.below be).2 1 _ rfl).1
           have g7 := ((ex2.below be).2 1 _ rfl).1)
        | (go_at_call 32
           refine (eqPSelf _ _ l10 _ _ x10 _ _ l11 _ _ x11 _ (ta10.below be).slv ua10 hla10 (ta11.below be).slv ua11 hla11).mono ?_
           rintro e wf ⟨rfl, b⟩
           have bf : Below wv0.heap.size wv0 wf := below_to be b))
      all_goals (go_wp2_with fail; go_meet; exact ⟨rfl, bx0.below bf, bx1.below bf, bx2.below bf, ow0.below bf, ex0.below bf, ex1.below bf, ex2.below bf, ta00.below bf, ta01.below bf, ta10.below bf, ta11.below bf, ta20.below bf, ta21.below bf, og.below bf, below_to bk0 bf⟩)
    case rest =>
    clear f0 f1 f2 f3 f4 f5 f6 f7
    clear g0 g1 g2 g3 g4 g5 g6 g7
    clear bx0 bx1 bx2 ow0 ex0 ex1 ex2 ta00 ta01 ta10 ta11 ta20 ta21 og
    obtain ⟨rfl, bx0, bx1, bx2, ow0, ex0, ex1, ex2, ta00, ta01, ta10, ta11, ta20, ta21, og, bk1⟩ := hcut
    rename World => wv1
    have f0 := (bx0.2 0 _ rfl).1
    have f1 := (bx0.2 1 _ rfl).1
    have f2 := (bx0.2 2 _ rfl).1
    have f3 := (bx0.2 3 _ rfl).1
    have f4 := (bx1.2 0 _ rfl).1
    have f5 := (bx1.2 1 _ rfl).1
    have f6 := (bx2.2 0 _ rfl).1
    have f7 := (bx2.2 1 _ rfl).1
    have g0 := (ex0.2 0 _ rfl).1
    have g1 := (ex0.2 1 _ rfl).1
    have g2 := (ex0.2 2 _ rfl).1
    have g3 := (ex0.2 3 _ rfl).1
    have g4 := (ex1.2 0 _ rfl).1
    have g5 := (ex1.2 1 _ rfl).1
    have g6 := (ex2.2 0 _ rfl).1
    have g7 := (ex2.2 1 _ rfl).1
    go_upto_region 22 with (fail)
    go_cut [85] (fun sv wx => sv = .bool false ∧ Box wx (w.heap.size) [.int .i64 p00, .int .i64 p01, .slice a00 l00 c00, .slice a01 l01 c01] ∧ Box wx (w.heap.size + 1) [.slice a10 l10 c10, .slice a11 l11 c11] ∧ Box wx (w.heap.size + 1 + 1) [.slice a20 l20 c20, .slice a21 l21 c21] ∧ OwB 0 NW wx aw nF F ∧ Box wx wy0.heap.size [.int .i64 p00, .int .i64 p01, .slice Ba00 l00 l00, .slice Ba01 l01 l01] ∧ Box wx wy1.heap.size [.slice Ba10 l10 l10, .slice Ba11 l11 l11] ∧ Box wx wy2.heap.size [.slice Ba20 l20 l20, .slice Ba21 l21 l21] ∧ OwB wk.heap.size md0 wx Ba00 l00 x00 ∧ OwB md0 wy0.heap.size wx Ba01 l01 x01 ∧ OwB (wy0.alloc (.cells #[.int .i64 p00, .int .i64 p01, .slice Ba00 l00 l00, .slice Ba01 l01 l01] 44)).heap.size md1 wx Ba10 l10 x10 ∧ OwB md1 wy1.heap.size wx Ba11 l11 x11 ∧ OwB (wy1.alloc (.cells #[.slice Ba10 l10 l10, .slice Ba11 l11 l11] 36)).heap.size md2 wx Ba20 l20 x20 ∧ OwB md2 wy2.heap.size wx Ba21 l21 x21 ∧ OwB G0 GH wx ag nF F ∧ Below w.heap.size w wx)
    case first =>
      go_region_with (first
        | (go_at_call 30
           with_reducible refine (toP a20 l20 c20 x20 a21 l21 c21 x21 _ (HSa20.out.below bk1.drew) (HSa21.out.below bk1.drew) hla20 hla21).mono ?_
           rintro e we ⟨Ea20, Ea21, rfl, ua20, ua21, b⟩
           have be : Below wv1.heap.size wv1 we := below_to (Below.refl wv1.heap.size wv1).drew b
           have f0 := ((bx0.below be).2 0 _ rfl).1
           have g0 := ((ex0.below be).2 0 _ rfl).1
           have f1 := ((bx0.below be).2 1 _ rfl).1
           have g1 := ((ex0.below be).2 1 _ rfl).1
           have f2 := ((bx0.below be).2 2 _ rfl).1
           have g2 := ((ex0.below be).2 2 _ rfl).1
           have f3 := ((bx0.below be).2 3 _ rfl).1
           have g3 := ((ex0.below be).2 3 _ rfl).1
           have f4 := ((bx1.below be).2 0 _ rfl).1
           have g4 := ((ex1.below be).2 0 _ rfl).1
           have f5 := ((bx1.below be).2 1 _ rfl).1
           have g5 := ((ex1.below be).2 1 _ rfl).1
           have f6 := ((bx2.below be).2 0 _ rfl).1
           have g6 := ((ex2.below be).2 0 _ rfl).1
           have f7 := ((bx2.below be).2 1 _ rfl).1
           have g7 := ((ex2.below be).2 1 _ rfl).1)
        | (go_at_call 32
           refine (eqPSelf _ _ l20 _ _ x20 _ _ l21 _ _ x21 _ (ta20.below be).slv ua20 hla20 (ta21.below be).slv ua21 hla21).mono ?_
           rintro e wf ⟨rfl, b⟩
           have bf : Below wv1.heap.size wv1 wf := below_to be b))
      all_goals (go_wp2_with fail; go_meet; exact ⟨rfl, bx0.below bf, bx1.below bf, bx2.below bf, ow0.below bf, ex0.below bf, ex1.below bf, ex2.below bf, ta00.below bf, ta01.below bf, ta10.below bf, ta11.below bf, ta20.below bf, ta21.below bf, og.below bf, below_to bk1 bf⟩)
    case rest =>
    clear f0 f1 f2 f3 f4 f5 f6 f7
    clear g0 g1 g2 g3 g4 g5 g6 g7
    clear bx0 bx1 bx2 ow0 ex0 ex1 ex2 ta00 ta01 ta10 ta11 ta20 ta21 og
    obtain ⟨rfl, bx0, bx1, bx2, ow0, ex0, ex1, ex2, ta00, ta01, ta10, ta11, ta20, ta21, og, bk2⟩ := hcut
    rename World => wv2
    have f0 := (bx0.2 0 _ rfl).1
    have f1 := (bx0.2 1 _ rfl).1
    have f2 := (bx0.2 2 _ rfl).1
    have f3 := (bx0.2 3 _ rfl).1
    have f4 := (bx1.2 0 _ rfl).1
    have f5 := (bx1.2 1 _ rfl).1
    have f6 := (bx2.2 0 _ rfl).1
    have f7 := (bx2.2 1 _ rfl).1
    have g0 := (ex0.2 0 _ rfl).1
    have g1 := (ex0.2 1 _ rfl).1
    have g2 := (ex0.2 2 _ rfl).1
    have g3 := (ex0.2 3 _ rfl).1
    have g4 := (ex1.2 0 _ rfl).1
    have g5 := (ex1.2 1 _ rfl).1
    have g6 := (ex2.2 0 _ rfl).1
    have g7 := (ex2.2 1 _ rfl).1
    go_wp2_with fail
    refine (markG p00 p01 _ md0 _ Ba00 l00 l00 x00 Ba01 l01 l01 x01 1 _ ta00 ta01 (by have z := og.2; have y := bk2.size; have x := ex0.1; have v := HMD0.out; omega) (by have x := ex0.1; omega) (by have q0 := HNB.out; have q1 := HNW.out; have q2 := HSI.out; have q3 := HG0.out; have q4 := HGH.out; have a0 := HLO0.out; have b0 := HMD0.out; have c0 := HSZ0.out; have d0 := HAL0.out; have a1 := HLO1.out; have b1 := HMD1.out; have c1 := HSZ1.out; have d1 := HAL1.out; have a2 := HLO2.out; have b2 := HMD2.out; have c2 := HSZ2.out; have d2 := HAL2.out; omega) (by have q0 := HNB.out; have q1 := HNW.out; have q2 := HSI.out; have q3 := HG0.out; have q4 := HGH.out; have a0 := HLO0.out; have b0 := HMD0.out; have c0 := HSZ0.out; have d0 := HAL0.out; have a1 := HLO1.out; have b1 := HMD1.out; have c1 := HSZ1.out; have d1 := HAL1.out; have a2 := HLO2.out; have b2 := HMD2.out; have c2 := HSZ2.out; have d2 := HAL2.out; omega) hla00 hla01 (by omega)).mono ?_
    rintro e wm0 ⟨rfl, mm⟩
    clear f0 f1 f2 f3 f4 f5 f6 f7
    clear g0 g1 g2 g3 g4 g5 g6 g7
    have bx0 := bx0.mid mm (.inl (by have q0 := HNB.out; have q1 := HNW.out; have q2 := HSI.out; have q3 := HG0.out; have q4 := HGH.out; have a0 := HLO0.out; have b0 := HMD0.out; have c0 := HSZ0.out; have d0 := HAL0.out; have a1 := HLO1.out; have b1 := HMD1.out; have c1 := HSZ1.out; have d1 := HAL1.out; have a2 := HLO2.out; have b2 := HMD2.out; have c2 := HSZ2.out; have d2 := HAL2.out; omega))
    have bx1 := bx1.mid mm (.inl (by have q0 := HNB.out; have q1 := HNW.out; have q2 := HSI.out; have q3 := HG0.out; have q4 := HGH.out; have a0 := HLO0.out; have b0 := HMD0.out; have c0 := HSZ0.out; have d0 := HAL0.out; have a1 := HLO1.out; have b1 := HMD1.out; have c1 := HSZ1.out; have d1 := HAL1.out; have a2 := HLO2.out; have b2 := HMD2.out; have c2 := HSZ2.out; have d2 := HAL2.out; omega))
    have bx2 := bx2.mid mm (.inl (by have q0 := HNB.out; have q1 := HNW.out; have q2 := HSI.out; have q3 := HG0.out; have q4 := HGH.out; have a0 := HLO0.out; have b0 := HMD0.out; have c0 := HSZ0.out; have d0 := HAL0.out; have a1 := HLO1.out; have b1 := HMD1.out; have c1 := HSZ1.out; have d1 := HAL1.out; have a2 := HLO2.out; have b2 := HMD2.out; have c2 := HSZ2.out; have d2 := HAL2.out; omega))
    have ow0 := ow0.mid mm (.inl (by have q0 := HNB.out; have q1 := HNW.out; have q2 := HSI.out; have q3 := HG0.out; have q4 := HGH.out; have a0 := HLO0.out; have b0 := HMD0.out; have c0 := HSZ0.out; have d0 := HAL0.out; have a1 := HLO1.out; have b1 := HMD1.out; have c1 := HSZ1.out; have d1 := HAL1.out; have a2 := HLO2.out; have b2 := HMD2.out; have c2 := HSZ2.out; have d2 := HAL2.out; omega))
    have og := og.mid mm (.inr (by have q0 := HNB.out; have q1 := HNW.out; have q2 := HSI.out; have q3 := HG0.out; have q4 := HGH.out; have a0 := HLO0.out; have b0 := HMD0.out; have c0 := HSZ0.out; have d0 := HAL0.out; have a1 := HLO1.out; have b1 := HMD1.out; have c1 := HSZ1.out; have d1 := HAL1.out; have a2 := HLO2.out; have b2 := HMD2.out; have c2 := HSZ2.out; have d2 := HAL2.out; omega))
    have ex1 := ex1.mid mm (.inr (by have q0 := HNB.out; have q1 := HNW.out; have q2 := HSI.out; have q3 := HG0.out; have q4 := HGH.out; have a0 := HLO0.out; have b0 := HMD0.out; have c0 := HSZ0.out; have d0 := HAL0.out; have a1 := HLO1.out; have b1 := HMD1.out; have c1 := HSZ1.out; have d1 := HAL1.out; have a2 := HLO2.out; have b2 := HMD2.out; have c2 := HSZ2.out; have d2 := HAL2.out; omega))
    have ta10 := ta10.mid mm (.inr (by have q0 := HNB.out; have q1 := HNW.out; have q2 := HSI.out; have q3 := HG0.out; have q4 := HGH.out; have a0 := HLO0.out; have b0 := HMD0.out; have c0 := HSZ0.out; have d0 := HAL0.out; have a1 := HLO1.out; have b1 := HMD1.out; have c1 := HSZ1.out; have d1 := HAL1.out; have a2 := HLO2.out; have b2 := HMD2.out; have c2 := HSZ2.out; have d2 := HAL2.out; omega))
    have ta11 := ta11.mid mm (.inr (by have q0 := HNB.out; have q1 := HNW.out; have q2 := HSI.out; have q3 := HG0.out; have q4 := HGH.out; have a0 := HLO0.out; have b0 := HMD0.out; have c0 := HSZ0.out; have d0 := HAL0.out; have a1 := HLO1.out; have b1 := HMD1.out; have c1 := HSZ1.out; have d1 := HAL1.out; have a2 := HLO2.out; have b2 := HMD2.out; have c2 := HSZ2.out; have d2 := HAL2.out; omega))
    have ex2 := ex2.mid mm (.inr (by have q0 := HNB.out; have q1 := HNW.out; have q2 := HSI.out; have q3 := HG0.out; have q4 := HGH.out; have a0 := HLO0.out; have b0 := HMD0.out; have c0 := HSZ0.out; have d0 := HAL0.out; have a1 := HLO1.out; have b1 := HMD1.out; have c1 := HSZ1.out; have d1 := HAL1.out; have a2 := HLO2.out; have b2 := HMD2.out; have c2 := HSZ2.out; have d2 := HAL2.out; omega))
    have ta20 := ta20.mid mm (.inr (by have q0 := HNB.out; have q1 := HNW.out; have q2 := HSI.out; have q3 := HG0.out; have q4 := HGH.out; have a0 := HLO0.out; have b0 := HMD0.out; have c0 := HSZ0.out; have d0 := HAL0.out; have a1 := HLO1.out; have b1 := HMD1.out; have c1 := HSZ1.out; have d1 := HAL1.out; have a2 := HLO2.out; have b2 := HMD2.out; have c2 := HSZ2.out; have d2 := HAL2.out; omega))
    have ta21 := ta21.mid mm (.inr (by have q0 := HNB.out; have q1 := HNW.out; have q2 := HSI.out; have q3 := HG0.out; have q4 := HGH.out; have a0 := HLO0.out; have b0 := HMD0.out; have c0 := HSZ0.out; have d0 := HAL0.out; have a1 := HLO1.out; have b1 := HMD1.out; have c1 := HSZ1.out; have d1 := HAL1.out; have a2 := HLO2.out; have b2 := HMD2.out; have c2 := HSZ2.out; have d2 := HAL2.out; omega))
    have bm0 : Below w.heap.size w wm0 := bk2.trans (mm.below (by have q0 := HNB.out; have q1 := HNW.out; have q2 := HSI.out; have q3 := HG0.out; have q4 := HGH.out; have a0 := HLO0.out; have b0 := HMD0.out; have c0 := HSZ0.out; have d0 := HAL0.out; have a1 := HLO1.out; have b1 := HMD1.out; have c1 := HSZ1.out; have d1 := HAL1.out; have a2 := HLO2.out; have b2 := HMD2.out; have c2 := HSZ2.out; have d2 := HAL2.out; omega) bk2.size)
    clear mm ta00 ta01 ex0
    obtain ⟨k0, hk0⟩ : ∃ k, 1 + l00 + l01 = k := ⟨_, rfl⟩
    have hkb0 : k0 ≤ 2097153 := by omega
    rw [hk0]
    clear hk0
    have f0 := (bx0.2 0 _ rfl).1
    have f1 := (bx0.2 1 _ rfl).1
    have f2 := (bx0.2 2 _ rfl).1
    have f3 := (bx0.2 3 _ rfl).1
    have f4 := (bx1.2 0 _ rfl).1
    have f5 := (bx1.2 1 _ rfl).1
    have f6 := (bx2.2 0 _ rfl).1
    have f7 := (bx2.2 1 _ rfl).1
    have g0 := True.intro
    have g1 := True.intro
    have g2 := True.intro
    have g3 := True.intro
    have g4 := (ex1.2 0 _ rfl).1
    have g5 := (ex1.2 1 _ rfl).1
    have g6 := (ex2.2 0 _ rfl).1
    have g7 := (ex2.2 1 _ rfl).1
    go_wp2_with fail
    refine (markP  _ md1 _ Ba10 l10 l10 x10 Ba11 l11 l11 x11 k0 _ ta10 ta11 (by have z := og.2; have y := bm0.size; have x := ex1.1; have v := HMD1.out; omega) (by have x := ex1.1; omega) (by have q0 := HNB.out; have q1 := HNW.out; have q2 := HSI.out; have q3 := HG0.out; have q4 := HGH.out; have a0 := HLO0.out; have b0 := HMD0.out; have c0 := HSZ0.out; have d0 := HAL0.out; have a1 := HLO1.out; have b1 := HMD1.out; have c1 := HSZ1.out; have d1 := HAL1.out; have a2 := HLO2.out; have b2 := HMD2.out; have c2 := HSZ2.out; have d2 := HAL2.out; omega) (by have q0 := HNB.out; have q1 := HNW.out; have q2 := HSI.out; have q3 := HG0.out; have q4 := HGH.out; have a0 := HLO0.out; have b0 := HMD0.out; have c0 := HSZ0.out; have d0 := HAL0.out; have a1 := HLO1.out; have b1 := HMD1.out; have c1 := HSZ1.out; have d1 := HAL1.out; have a2 := HLO2.out; have b2 := HMD2.out; have c2 := HSZ2.out; have d2 := HAL2.out; omega) hla10 hla11 (by omega)).mono ?_
    rintro e wm1 ⟨rfl, mm⟩
    clear f0 f1 f2 f3 f4 f5 f6 f7
    clear g0 g1 g2 g3 g4 g5 g6 g7
    have bx0 := bx0.mid mm (.inl (by have q0 := HNB.out; have q1 := HNW.out; have q2 := HSI.out; have q3 := HG0.out; have q4 := HGH.out; have a0 := HLO0.out; have b0 := HMD0.out; have c0 := HSZ0.out; have d0 := HAL0.out; have a1 := HLO1.out; have b1 := HMD1.out; have c1 := HSZ1.out; have d1 := HAL1.out; have a2 := HLO2.out; have b2 := HMD2.out; have c2 := HSZ2.out; have d2 := HAL2.out; omega))
    have bx1 := bx1.mid mm (.inl (by have q0 := HNB.out; have q1 := HNW.out; have q2 := HSI.out; have q3 := HG0.out; have q4 := HGH.out; have a0 := HLO0.out; have b0 := HMD0.out; have c0 := HSZ0.out; have d0 := HAL0.out; have a1 := HLO1.out; have b1 := HMD1.out; have c1 := HSZ1.out; have d1 := HAL1.out; have a2 := HLO2.out; have b2 := HMD2.out; have c2 := HSZ2.out; have d2 := HAL2.out; omega))
    have bx2 := bx2.mid mm (.inl (by have q0 := HNB.out; have q1 := HNW.out; have q2 := HSI.out; have q3 := HG0.out; have q4 := HGH.out; have a0 := HLO0.out; have b0 := HMD0.out; have c0 := HSZ0.out; have d0 := HAL0.out; have a1 := HLO1.out; have b1 := HMD1.out; have c1 := HSZ1.out; have d1 := HAL1.out; have a2 := HLO2.out; have b2 := HMD2.out; have c2 := HSZ2.out; have d2 := HAL2.out; omega))
    have ow0 := ow0.mid mm (.inl (by have q0 := HNB.out; have q1 := HNW.out; have q2 := HSI.out; have q3 := HG0.out; have q4 := HGH.out; have a0 := HLO0.out; have b0 := HMD0.out; have c0 := HSZ0.out; have d0 := HAL0.out; have a1 := HLO1.out; have b1 := HMD1.out; have c1 := HSZ1.out; have d1 := HAL1.out; have a2 := HLO2.out; have b2 := HMD2.out; have c2 := HSZ2.out; have d2 := HAL2.out; omega))
    have og := og.mid mm (.inr (by have q0 := HNB.out; have q1 := HNW.out; have q2 := HSI.out; have q3 := HG0.out; have q4 := HGH.out; have a0 := HLO0.out; have b0 := HMD0.out; have c0 := HSZ0.out; have d0 := HAL0.out; have a1 := HLO1.out; have b1 := HMD1.out; have c1 := HSZ1.out; have d1 := HAL1.out; have a2 := HLO2.out; have b2 := HMD2.out; have c2 := HSZ2.out; have d2 := HAL2.out; omega))
    have ex2 := ex2.mid mm (.inr (by have q0 := HNB.out; have q1 := HNW.out; have q2 := HSI.out; have q3 := HG0.out; have q4 := HGH.out; have a0 := HLO0.out; have b0 := HMD0.out; have c0 := HSZ0.out; have d0 := HAL0.out; have a1 := HLO1.out; have b1 := HMD1.out; have c1 := HSZ1.out; have d1 := HAL1.out; have a2 := HLO2.out; have b2 := HMD2.out; have c2 := HSZ2.out; have d2 := HAL2.out; omega))
    have ta20 := ta20.mid mm (.inr (by have q0 := HNB.out; have q1 := HNW.out; have q2 := HSI.out; have q3 := HG0.out; have q4 := HGH.out; have a0 := HLO0.out; have b0 := HMD0.out; have c0 := HSZ0.out; have d0 := HAL0.out; have a1 := HLO1.out; have b1 := HMD1.out; have c1 := HSZ1.out; have d1 := HAL1.out; have a2 := HLO2.out; have b2 := HMD2.out; have c2 := HSZ2.out; have d2 := HAL2.out; omega))
    have ta21 := ta21.mid mm (.inr (by have q0 := HNB.out; have q1 := HNW.out; have q2 := HSI.out; have q3 := HG0.out; have q4 := HGH.out; have a0 := HLO0.out; have b0 := HMD0.out; have c0 := HSZ0.out; have d0 := HAL0.out; have a1 := HLO1.out; have b1 := HMD1.out; have c1 := HSZ1.out; have d1 := HAL1.out; have a2 := HLO2.out; have b2 := HMD2.out; have c2 := HSZ2.out; have d2 := HAL2.out; omega))
    have bm1 : Below w.heap.size w wm1 := bm0.trans (mm.below (by have q0 := HNB.out; have q1 := HNW.out; have q2 := HSI.out; have q3 := HG0.out; have q4 := HGH.out; have a0 := HLO0.out; have b0 := HMD0.out; have c0 := HSZ0.out; have d0 := HAL0.out; have a1 := HLO1.out; have b1 := HMD1.out; have c1 := HSZ1.out; have d1 := HAL1.out; have a2 := HLO2.out; have b2 := HMD2.out; have c2 := HSZ2.out; have d2 := HAL2.out; omega) bm0.size)
    clear mm ta10 ta11 ex1
    obtain ⟨k1, hk1⟩ : ∃ k, k0 + l10 + l11 = k := ⟨_, rfl⟩
    have hkb1 : k1 ≤ 4194306 := by omega
    rw [hk1]
    clear hk1
    have f0 := (bx0.2 0 _ rfl).1
    have f1 := (bx0.2 1 _ rfl).1
    have f2 := (bx0.2 2 _ rfl).1
    have f3 := (bx0.2 3 _ rfl).1
    have f4 := (bx1.2 0 _ rfl).1
    have f5 := (bx1.2 1 _ rfl).1
    have f6 := (bx2.2 0 _ rfl).1
    have f7 := (bx2.2 1 _ rfl).1
    have g0 := True.intro
    have g1 := True.intro
    have g2 := True.intro
    have g3 := True.intro
    have g4 := True.intro
    have g5 := True.intro
    have g6 := (ex2.2 0 _ rfl).1
    have g7 := (ex2.2 1 _ rfl).1
    go_wp2_with fail
    refine (markP  _ md2 _ Ba20 l20 l20 x20 Ba21 l21 l21 x21 k1 _ ta20 ta21 (by have z := og.2; have y := bm1.size; have x := ex2.1; have v := HMD2.out; omega) (by have x := ex2.1; omega) (by have q0 := HNB.out; have q1 := HNW.out; have q2 := HSI.out; have q3 := HG0.out; have q4 := HGH.out; have a0 := HLO0.out; have b0 := HMD0.out; have c0 := HSZ0.out; have d0 := HAL0.out; have a1 := HLO1.out; have b1 := HMD1.out; have c1 := HSZ1.out; have d1 := HAL1.out; have a2 := HLO2.out; have b2 := HMD2.out; have c2 := HSZ2.out; have d2 := HAL2.out; omega) (by have q0 := HNB.out; have q1 := HNW.out; have q2 := HSI.out; have q3 := HG0.out; have q4 := HGH.out; have a0 := HLO0.out; have b0 := HMD0.out; have c0 := HSZ0.out; have d0 := HAL0.out; have a1 := HLO1.out; have b1 := HMD1.out; have c1 := HSZ1.out; have d1 := HAL1.out; have a2 := HLO2.out; have b2 := HMD2.out; have c2 := HSZ2.out; have d2 := HAL2.out; omega) hla20 hla21 (by omega)).mono ?_
    rintro e wm2 ⟨rfl, mm⟩
    clear f0 f1 f2 f3 f4 f5 f6 f7
    clear g0 g1 g2 g3 g4 g5 g6 g7
    have bx0 := bx0.mid mm (.inl (by have q0 := HNB.out; have q1 := HNW.out; have q2 := HSI.out; have q3 := HG0.out; have q4 := HGH.out; have a0 := HLO0.out; have b0 := HMD0.out; have c0 := HSZ0.out; have d0 := HAL0.out; have a1 := HLO1.out; have b1 := HMD1.out; have c1 := HSZ1.out; have d1 := HAL1.out; have a2 := HLO2.out; have b2 := HMD2.out; have c2 := HSZ2.out; have d2 := HAL2.out; omega))
    have bx1 := bx1.mid mm (.inl (by have q0 := HNB.out; have q1 := HNW.out; have q2 := HSI.out; have q3 := HG0.out; have q4 := HGH.out; have a0 := HLO0.out; have b0 := HMD0.out; have c0 := HSZ0.out; have d0 := HAL0.out; have a1 := HLO1.out; have b1 := HMD1.out; have c1 := HSZ1.out; have d1 := HAL1.out; have a2 := HLO2.out; have b2 := HMD2.out; have c2 := HSZ2.out; have d2 := HAL2.out; omega))
    have bx2 := bx2.mid mm (.inl (by have q0 := HNB.out; have q1 := HNW.out; have q2 := HSI.out; have q3 := HG0.out; have q4 := HGH.out; have a0 := HLO0.out; have b0 := HMD0.out; have c0 := HSZ0.out; have d0 := HAL0.out; have a1 := HLO1.out; have b1 := HMD1.out; have c1 := HSZ1.out; have d1 := HAL1.out; have a2 := HLO2.out; have b2 := HMD2.out; have c2 := HSZ2.out; have d2 := HAL2.out; omega))
    have ow0 := ow0.mid mm (.inl (by have q0 := HNB.out; have q1 := HNW.out; have q2 := HSI.out; have q3 := HG0.out; have q4 := HGH.out; have a0 := HLO0.out; have b0 := HMD0.out; have c0 := HSZ0.out; have d0 := HAL0.out; have a1 := HLO1.out; have b1 := HMD1.out; have c1 := HSZ1.out; have d1 := HAL1.out; have a2 := HLO2.out; have b2 := HMD2.out; have c2 := HSZ2.out; have d2 := HAL2.out; omega))
    have og := og.mid mm (.inr (by have q0 := HNB.out; have q1 := HNW.out; have q2 := HSI.out; have q3 := HG0.out; have q4 := HGH.out; have a0 := HLO0.out; have b0 := HMD0.out; have c0 := HSZ0.out; have d0 := HAL0.out; have a1 := HLO1.out; have b1 := HMD1.out; have c1 := HSZ1.out; have d1 := HAL1.out; have a2 := HLO2.out; have b2 := HMD2.out; have c2 := HSZ2.out; have d2 := HAL2.out; omega))
    have bm2 : Below w.heap.size w wm2 := bm1.trans (mm.below (by have q0 := HNB.out; have q1 := HNW.out; have q2 := HSI.out; have q3 := HG0.out; have q4 := HGH.out; have a0 := HLO0.out; have b0 := HMD0.out; have c0 := HSZ0.out; have d0 := HAL0.out; have a1 := HLO1.out; have b1 := HMD1.out; have c1 := HSZ1.out; have d1 := HAL1.out; have a2 := HLO2.out; have b2 := HMD2.out; have c2 := HSZ2.out; have d2 := HAL2.out; omega) bm1.size)
    clear mm ta20 ta21 ex2
    obtain ⟨k2, hk2⟩ : ∃ k, k1 + l20 + l21 = k := ⟨_, rfl⟩
    have hkb2 : k2 ≤ 6291459 := by omega
    rw [hk2]
    clear hk2
    go_wp2_with fail
    refine (eqISelf _ _ nF _ _ F _ og.slv ow0.slv hnF).mono ?_
    rintro e wn ⟨rfl, b⟩
    have bx0 := bx0.below b
    have bx1 := bx1.below b
    have bx2 := bx2.below b
    have ow0 := ow0.below b
    have og := og.below b
    have bn : Below w.heap.size w wn := below_to bm2 b
    clear b
    go_wp2_with fail
    refine (markI G0 GH ag nF cg F 1 _ og hnF (by omega)).mono ?_
    rintro e wg ⟨rfl, og, mm⟩
    have bx0 := bx0.mid mm (.inl (by have q0 := HNB.out; have q1 := HNW.out; have q2 := HSI.out; have q3 := HG0.out; have q4 := HGH.out; have a0 := HLO0.out; have b0 := HMD0.out; have c0 := HSZ0.out; have d0 := HAL0.out; have a1 := HLO1.out; have b1 := HMD1.out; have c1 := HSZ1.out; have d1 := HAL1.out; have a2 := HLO2.out; have b2 := HMD2.out; have c2 := HSZ2.out; have d2 := HAL2.out; omega))
    have bx1 := bx1.mid mm (.inl (by have q0 := HNB.out; have q1 := HNW.out; have q2 := HSI.out; have q3 := HG0.out; have q4 := HGH.out; have a0 := HLO0.out; have b0 := HMD0.out; have c0 := HSZ0.out; have d0 := HAL0.out; have a1 := HLO1.out; have b1 := HMD1.out; have c1 := HSZ1.out; have d1 := HAL1.out; have a2 := HLO2.out; have b2 := HMD2.out; have c2 := HSZ2.out; have d2 := HAL2.out; omega))
    have bx2 := bx2.mid mm (.inl (by have q0 := HNB.out; have q1 := HNW.out; have q2 := HSI.out; have q3 := HG0.out; have q4 := HGH.out; have a0 := HLO0.out; have b0 := HMD0.out; have c0 := HSZ0.out; have d0 := HAL0.out; have a1 := HLO1.out; have b1 := HMD1.out; have c1 := HSZ1.out; have d1 := HAL1.out; have a2 := HLO2.out; have b2 := HMD2.out; have c2 := HSZ2.out; have d2 := HAL2.out; omega))
    have ow0 := ow0.mid mm (.inl (by have q0 := HNB.out; have q1 := HNW.out; have q2 := HSI.out; have q3 := HG0.out; have q4 := HGH.out; have a0 := HLO0.out; have b0 := HMD0.out; have c0 := HSZ0.out; have d0 := HAL0.out; have a1 := HLO1.out; have b1 := HMD1.out; have c1 := HSZ1.out; have d1 := HAL1.out; have a2 := HLO2.out; have b2 := HMD2.out; have c2 := HSZ2.out; have d2 := HAL2.out; omega))
    have bg : Below w.heap.size w wg := bn.trans (mm.below (by have q0 := HNB.out; have q1 := HNW.out; have q2 := HSI.out; have q3 := HG0.out; have q4 := HGH.out; have a0 := HLO0.out; have b0 := HMD0.out; have c0 := HSZ0.out; have d0 := HAL0.out; have a1 := HLO1.out; have b1 := HMD1.out; have c1 := HSZ1.out; have d1 := HAL1.out; have a2 := HLO2.out; have b2 := HMD2.out; have c2 := HSZ2.out; have d2 := HAL2.out; omega) bn.size)
    clear mm
    obtain ⟨mF, hmF⟩ : ∃ k, 1 + nF = k := ⟨_, rfl⟩
    have hmFb : mF ≤ 1048577 := by omega
    rw [hmF]
    have HMF := hid hmF
    clear hmF
    have hmm0 : ((mF : Int) != (mF : Int)) = false := by simp
    go_wp2_with fail
    refine (heldI ag nF cg 1 _ og.slv hnF (by omega)).mono ?_
    rintro e w' ⟨rfl, hw'⟩
    rw [HMF.out, hw']
    clear hw' w'
    have f0 := (bx0.2 0 _ rfl).1
    have f1 := (bx0.2 1 _ rfl).1
    have f2 := (bx0.2 2 _ rfl).1
    have f3 := (bx0.2 3 _ rfl).1
    have f4 := (bx1.2 0 _ rfl).1
    have f5 := (bx1.2 1 _ rfl).1
    have f6 := (bx2.2 0 _ rfl).1
    have f7 := (bx2.2 1 _ rfl).1
    go_upto_region 38 with (fail)
    go_cut [20,21] (fun sv0 sv1 wx => ∃ az cz, sv0 = .slice az nF cz ∧ sv1 = .bool D ∧ OwB 0 wx.heap.size wx az nF F ∧ OwB 0 NW wx aw nF F ∧ OwB G0 GH wx ag nF (iota 1 nF) ∧ Below w.heap.size w wx)
    case first =>
      have HQa00 := hid (HSa00.out.below bg)
      have HQa01 := hid (HSa01.out.below bg)
      have HQa10 := hid (HSa10.out.below bg)
      have HQa11 := hid (HSa11.out.below bg)
      have HQa20 := hid (HSa20.out.below bg)
      have HQa21 := hid (HSa21.out.below bg)
      have HKK : Hid (∀ w', Below wg.heap.size wg w' → Below wg.heap.size wg w' ∧ w'.cell? ⟨w.heap.size, 0, none⟩ = some (.int .i64 p00) ∧ w'.cell? ⟨w.heap.size, 1, none⟩ = some (.int .i64 p01) ∧ w'.cell? ⟨w.heap.size, 2, none⟩ = some (.slice a00 l00 c00) ∧ w'.cell? ⟨w.heap.size, 3, none⟩ = some (.slice a01 l01 c01) ∧ w'.cell? ⟨w.heap.size + 1, 0, none⟩ = some (.slice a10 l10 c10) ∧ w'.cell? ⟨w.heap.size + 1, 1, none⟩ = some (.slice a11 l11 c11) ∧ w'.cell? ⟨w.heap.size + 1 + 1, 0, none⟩ = some (.slice a20 l20 c20) ∧ w'.cell? ⟨w.heap.size + 1 + 1, 1, none⟩ = some (.slice a21 l21 c21)) := hid (fun w' b => ⟨b, ((bx0.below b).2 0 _ rfl).1, ((bx0.below b).2 1 _ rfl).1, ((bx0.below b).2 2 _ rfl).1, ((bx0.below b).2 3 _ rfl).1, ((bx1.below b).2 0 _ rfl).1, ((bx1.below b).2 1 _ rfl).1, ((bx2.below b).2 0 _ rfl).1, ((bx2.below b).2 1 _ rfl).1⟩)
      go_region_held3 (fun w' => Below wg.heap.size wg w' ∧ w'.cell? ⟨w.heap.size, 0, none⟩ = some (.int .i64 p00) ∧ w'.cell? ⟨w.heap.size, 1, none⟩ = some (.int .i64 p01) ∧ w'.cell? ⟨w.heap.size, 2, none⟩ = some (.slice a00 l00 c00) ∧ w'.cell? ⟨w.heap.size, 3, none⟩ = some (.slice a01 l01 c01) ∧ w'.cell? ⟨w.heap.size + 1, 0, none⟩ = some (.slice a10 l10 c10) ∧ w'.cell? ⟨w.heap.size + 1, 1, none⟩ = some (.slice a11 l11 c11) ∧ w'.cell? ⟨w.heap.size + 1 + 1, 0, none⟩ = some (.slice a20 l20 c20) ∧ w'.cell? ⟨w.heap.size + 1 + 1, 1, none⟩ = some (.slice a21 l21 c21)) ((go_split_ands; exact HKK.out _ (by first | with_reducible assumption | with_reducible exact (Below.refl _ _).drew | with_reducible exact Below.refl _ _ | (refine Below.drew ?_; with_reducible assumption))))
        (first
        | (go_at_call 30
           with_reducible refine (toP a20 l20 c20 x20 a21 l21 c21 x21 _ (HQa20.out.below bq01) (HQa21.out.below bq01) hla20 hla21).mono ?_
           rintro e wq012 ⟨Aa20, Aa21, rfl, sq012a20, sq012a21, b⟩
           have bq012 : Below wg.heap.size wg wq012 := below_to bq01 b
           have sq012a00 := sq01a00.below b
           have sq012a01 := sq01a01.below b
           have sq012a10 := sq01a10.below b
           have sq012a11 := sq01a11.below b)
        | (go_at_call 30
           with_reducible refine (toP a10 l10 c10 x10 a11 l11 c11 x11 _ (HQa10.out.below bq02) (HQa11.out.below bq02) hla10 hla11).mono ?_
           rintro e wq012 ⟨Aa10, Aa11, rfl, sq012a10, sq012a11, b⟩
           have bq012 : Below wg.heap.size wg wq012 := below_to bq02 b
           have sq012a00 := sq02a00.below b
           have sq012a01 := sq02a01.below b
           have sq012a20 := sq02a20.below b
           have sq012a21 := sq02a21.below b)
        | (go_at_call 35
           with_reducible refine (toG p00 p01 a00 l00 c00 x00 a01 l01 c01 x01 _ (HQa00.out.below bq12) (HQa01.out.below bq12) hla00 hla01).mono ?_
           rintro e wq012 ⟨Aa00, Aa01, rfl, sq012a00, sq012a01, b⟩
           have bq012 : Below wg.heap.size wg wq012 := below_to bq12 b
           have sq012a10 := sq12a10.below b
           have sq012a11 := sq12a11.below b
           have sq012a20 := sq12a20.below b
           have sq012a21 := sq12a21.below b)
        | (go_at_call 30
           with_reducible refine (toP a10 l10 c10 x10 a11 l11 c11 x11 _ (HQa10.out.below bq0) (HQa11.out.below bq0) hla10 hla11).mono ?_
           rintro e wq01 ⟨Aa10, Aa11, rfl, sq01a10, sq01a11, b⟩
           have bq01 : Below wg.heap.size wg wq01 := below_to bq0 b
           have sq01a00 := sq0a00.below b
           have sq01a01 := sq0a01.below b)
        | (go_at_call 30
           with_reducible refine (toP a20 l20 c20 x20 a21 l21 c21 x21 _ (HQa20.out.below bq0) (HQa21.out.below bq0) hla20 hla21).mono ?_
           rintro e wq02 ⟨Aa20, Aa21, rfl, sq02a20, sq02a21, b⟩
           have bq02 : Below wg.heap.size wg wq02 := below_to bq0 b
           have sq02a00 := sq0a00.below b
           have sq02a01 := sq0a01.below b)
        | (go_at_call 35
           with_reducible refine (toG p00 p01 a00 l00 c00 x00 a01 l01 c01 x01 _ (HQa00.out.below bq1) (HQa01.out.below bq1) hla00 hla01).mono ?_
           rintro e wq01 ⟨Aa00, Aa01, rfl, sq01a00, sq01a01, b⟩
           have bq01 : Below wg.heap.size wg wq01 := below_to bq1 b
           have sq01a10 := sq1a10.below b
           have sq01a11 := sq1a11.below b)
        | (go_at_call 30
           with_reducible refine (toP a20 l20 c20 x20 a21 l21 c21 x21 _ (HQa20.out.below bq1) (HQa21.out.below bq1) hla20 hla21).mono ?_
           rintro e wq12 ⟨Aa20, Aa21, rfl, sq12a20, sq12a21, b⟩
           have bq12 : Below wg.heap.size wg wq12 := below_to bq1 b
           have sq12a10 := sq1a10.below b
           have sq12a11 := sq1a11.below b)
        | (go_at_call 35
           with_reducible refine (toG p00 p01 a00 l00 c00 x00 a01 l01 c01 x01 _ (HQa00.out.below bq2) (HQa01.out.below bq2) hla00 hla01).mono ?_
           rintro e wq02 ⟨Aa00, Aa01, rfl, sq02a00, sq02a01, b⟩
           have bq02 : Below wg.heap.size wg wq02 := below_to bq2 b
           have sq02a20 := sq2a20.below b
           have sq02a21 := sq2a21.below b)
        | (go_at_call 30
           with_reducible refine (toP a10 l10 c10 x10 a11 l11 c11 x11 _ (HQa10.out.below bq2) (HQa11.out.below bq2) hla10 hla11).mono ?_
           rintro e wq12 ⟨Aa10, Aa11, rfl, sq12a10, sq12a11, b⟩
           have bq12 : Below wg.heap.size wg wq12 := below_to bq2 b
           have sq12a20 := sq2a20.below b
           have sq12a21 := sq2a21.below b)
        | (go_at_call 35
           with_reducible refine (toG p00 p01 a00 l00 c00 x00 a01 l01 c01 x01 _ (HQa00.out.below (Below.refl wg.heap.size wg).drew) (HQa01.out.below (Below.refl wg.heap.size wg).drew) hla00 hla01).mono ?_
           rintro e wq0 ⟨Aa00, Aa01, rfl, sq0a00, sq0a01, b⟩
           have bq0 : Below wg.heap.size wg wq0 := below_to (Below.refl wg.heap.size wg).drew b)
        | (go_at_call 30
           with_reducible refine (toP a10 l10 c10 x10 a11 l11 c11 x11 _ (HQa10.out.below (Below.refl wg.heap.size wg).drew) (HQa11.out.below (Below.refl wg.heap.size wg).drew) hla10 hla11).mono ?_
           rintro e wq1 ⟨Aa10, Aa11, rfl, sq1a10, sq1a11, b⟩
           have bq1 : Below wg.heap.size wg wq1 := below_to (Below.refl wg.heap.size wg).drew b)
        | (go_at_call 30
           with_reducible refine (toP a20 l20 c20 x20 a21 l21 c21 x21 _ (HQa20.out.below (Below.refl wg.heap.size wg).drew) (HQa21.out.below (Below.refl wg.heap.size wg).drew) hla20 hla21).mono ?_
           rintro e wq2 ⟨Aa20, Aa21, rfl, sq2a20, sq2a21, b⟩
           have bq2 : Below wg.heap.size wg wq2 := below_to (Below.refl wg.heap.size wg).drew b)
        | (go_at_call 72
           refine (HBOTH.out _ _ _ _ _ _ _ _ _ _ _ _ _ sq012a00 sq012a01 sq012a10 sq012a11 sq012a20 sq012a21).2.mono ?_
           rintro e wz ⟨az, cz, rfl, oz, b⟩
           have bz : Below wg.heap.size wg wz := below_to bq012 b))
      all_goals (go_wp2_with fail; go_meet; exact ⟨az, cz, rfl, rfl, oz.mono (Nat.zero_le _) (Nat.le_refl _), ow0.below bz, og.below bz, below_to bg bz⟩)
    case rest =>
    clear f0 f1 f2 f3 f4 f5 f6 f7
    clear ow0 og
    obtain ⟨az, cz, rfl, rfl, oz, ow0, og, bzz⟩ := hcut
    rename World => wz
    clear bx0 bx1 bx2
    go_wp2_with fail
    refine (eqISelf _ _ nF _ _ F _ oz.slv ow0.slv hnF).mono ?_
    rintro e wu ⟨rfl, b⟩
    have og := og.below b
    have bu : Below w.heap.size w wu := below_to bzz b
    clear b
    go_wp2_with fail
    refine (heldI ag nF cg 1 _ og.slv hnF (by omega)).mono ?_
    rintro e w' ⟨rfl, hw'⟩
    rw [HMF.out, hw']
    clear hw' w'
    go_wp2_with fail
    go_ret
    exact ⟨rfl, bu⟩
end TryWalk
end Go.Proofs.Ytlbmmecjiopbbaa
