/- The law FnExactPotentialOf, walked. No condition. -/
import Derived.Test.YtlbmmecjiopbbaaWi9
namespace Go.Proofs.Ytlbmmecjiopbbaa
open Go.RowKit Flo Sl Pg
set_option linter.unusedVariables false
namespace TryWalk
set_option maxRecDepth 100000 in
set_option maxHeartbeats 8000000 in
theorem fnExactPotentialOf (p00 : Int) (p01 : Int) (a00 : Option Addr) (l00 c00 : Nat) (x00 : List Int) (a01 : Option Addr) (l01 c01 : Nat) (x01 : List Int) (w : World) (hwp00 : (Lit.int .i64 p00).wf = true) (hwp01 : (Lit.int .i64 p01).wf = true) (hra00 : IsRow .i64 w a00 l00 c00 x00) (hra01 : IsRow .i64 w a01 l01 c01 x01) : Calls Try.prog 13 #[.agg #[.int .i64 p00, .int .i64 p01, .slice a00 l00 c00, .slice a01 l01 c01]] w (RetD true w) := by
  obtain ⟨hsa00, hva00, hma00⟩ := hra00
  have HSa00 := hid hsa00
  have HVa00 := hid hva00
  clear hsa00 hva00
  obtain ⟨hsa01, hva01, hma01⟩ := hra01
  have HSa01 := hid hsa01
  have HVa01 := hid hva01
  clear hsa01 hva01
  have HWp00 := hid hwp00
  clear hwp00
  have HWp01 := hid hwp01
  clear hwp01
  go_enter Try.func13, Try.ntmps13
  go_wp2_with fail
  refine (szGAny p00 p01 a00 l00 c00 a01 l01 c01 1048576 _ (Nat.le_refl _) hma00 hma01).mono ?_
  rintro e w1 ⟨r, rfl, b1, (⟨rfl, h1⟩ | ⟨rfl, h1⟩)⟩
  · have bw1 : Below w.heap.size w w1 := below_to (by repeat (first | exact Below.refl _ _ | with_reducible assumption | refine Below.alloc ?_ (by simp <;> omega) _)) b1
    go_wp2_with fail
    go_ret
    exact ⟨rfl, bw1⟩
  have bw1 : Below w.heap.size w w1 := below_to (by repeat (first | exact Below.refl _ _ | with_reducible assumption | refine Below.alloc ?_ (by simp <;> omega) _)) b1
  have bx0 : Box w1 (w.heap.size) [.int .i64 p00, .int .i64 p01, .slice a00 l00 c00, .slice a01 l01 c01] := (show Box _ (w.heap.size) _ from by simpa using Box.new w [.int .i64 p00, .int .i64 p01, .slice a00 l00 c00, .slice a01 l01 c01] 41).below b1
  have hla00 : l00 ≤ 1048576 := by omega
  have hla01 : l01 ≤ 1048576 := by omega
  obtain ⟨m1, hm1⟩ : ∃ m, 1048576 - (l00 + l01) = m := ⟨_, rfl⟩
  have hmm1 : m1 ≤ 1048576 := by omega
  rw [hm1]
  clear b1 h1 hm1
  obtain ⟨F, nF, D, hnF, hboth⟩ := bothPot p00 p01 HWp00.out HWp01.out l00 x00 hla00 HVa00.out l01 x01 hla01 HVa01.out
  have HBOTH := hid hboth
  clear hboth
  have hDD : (D != D) = false := by simp
  have f0 := (bx0.2 0 _ rfl).1
  have f1 := (bx0.2 1 _ rfl).1
  have f2 := (bx0.2 2 _ rfl).1
  have f3 := (bx0.2 3 _ rfl).1
  go_upto_region 5 with (fail)
  go_cut [4,5] (fun sv0 sv1 wx => ∃ aw cw, sv0 = .slice aw nF cw ∧ sv1 = .bool D ∧ OwB 0 wx.heap.size wx aw nF F ∧ Box wx (w.heap.size) [.int .i64 p00, .int .i64 p01, .slice a00 l00 c00, .slice a01 l01 c01] ∧ Below w.heap.size w wx)
  case first =>
    go_wp2_with fail
    refine (toG p00 p01 a00 l00 c00 x00 a01 l01 c01 x01 _ (HSa00.out.below bw1) (HSa01.out.below bw1) hla00 hla01).mono ?_
    rintro e wa ⟨Aa00, Aa01, rfl, sa00, sa01, ba⟩
    have bx0a := bx0.below ba
    clear f0 f1 f2 f3
    have f0 := (bx0a.2 0 _ rfl).1
    have f1 := (bx0a.2 1 _ rfl).1
    have f2 := (bx0a.2 2 _ rfl).1
    have f3 := (bx0a.2 3 _ rfl).1
    go_wp2_with fail
    refine (HBOTH.out _ _ _ _ _ sa00 sa01).1.mono ?_
    rintro e wz ⟨az, cz, rfl, oz, b⟩
    have bz : Below w1.heap.size w1 wz := below_to ba b
    clear b ba
    go_wp2_with fail
    go_meet
    exact ⟨az, cz, rfl, rfl, oz.mono (Nat.zero_le _) (Nat.le_refl _), bx0.below bz, below_to bw1 bz⟩
  case rest =>
    clear f0 f1 f2 f3
    clear bx0
    obtain ⟨aw, cw, rfl, rfl, ow0, bx0, bc⟩ := hcut
    rename World => wk
    have HNB := hid bx0.1
    obtain ⟨NW, hNW⟩ : ∃ N, wk.heap.size = N := ⟨_, rfl⟩
    rw [hNW] at ow0
    have HNW := hid hNW
    clear hNW
    have f0 := (bx0.2 0 _ rfl).1
    have f1 := (bx0.2 1 _ rfl).1
    have f2 := (bx0.2 2 _ rfl).1
    have f3 := (bx0.2 3 _ rfl).1
    go_wp2_with fail
    refine (toGo p00 p01 a00 l00 c00 x00 a01 l01 c01 x01 _ (HSa00.out.below bc) (HSa01.out.below bc) hla00 hla01).mono ?_
    rintro e wy0 ⟨Ba00, Ba01, md0, rfl, ta00, ta01, hlo0, hmd0, b⟩
    clear f0 f1 f2 f3
    have HLO0 := hid hlo0
    have HMD0 := hid hmd0
    have HSZ0 := hid b.size
    clear hlo0 hmd0
    have bx0 := bx0.below b
    have ow0 := ow0.below b
    have by0 : Below w.heap.size w wy0 := below_to bc b
    clear b
    have hal : Below wy0.heap.size wy0 (wy0.alloc (.cells #[.int .i64 p00, .int .i64 p01, .slice Ba00 l00 l00, .slice Ba01 l01 l01] 44)) := Below.alloc (Below.refl _ _) (Nat.le_refl _) _
    have HAL0 : Hid ((wy0.alloc (.cells #[.int .i64 p00, .int .i64 p01, .slice Ba00 l00 l00, .slice Ba01 l01 l01] 44)).heap.size = wy0.heap.size + 1) := hid (by simp)
    have bx0 := bx0.below hal
    have ow0 := ow0.below hal
    have ex0 : Box (wy0.alloc (.cells #[.int .i64 p00, .int .i64 p01, .slice Ba00 l00 l00, .slice Ba01 l01 l01] 44)) wy0.heap.size [.int .i64 p00, .int .i64 p01, .slice Ba00 l00 l00, .slice Ba01 l01 l01] := Box.new _ _ _
    have ta00 := ta00.below hal
    have ta01 := ta01.below hal
    have byl0 : Below w.heap.size w (wy0.alloc (.cells #[.int .i64 p00, .int .i64 p01, .slice Ba00 l00 l00, .slice Ba01 l01 l01] 44)) := below_to by0 hal
    clear hal
    go_wp2_with fail
    refine (HBOTH.out _ _ _ _ _ ta00.slv ta01.slv).2.mono ?_
    rintro e wi ⟨ag, cg, rfl, og, b⟩
    have HSI := hid b.size
    have bx0 := bx0.below b
    have ow0 := ow0.below b
    have ex0 := ex0.below b
    have ta00 := ta00.below b
    have ta01 := ta01.below b
    have bi : Below w.heap.size w wi := below_to byl0 b
    clear b
    obtain ⟨G0, hG0⟩ : ∃ N, (wy0.alloc (.cells #[.int .i64 p00, .int .i64 p01, .slice Ba00 l00 l00, .slice Ba01 l01 l01] 44)).heap.size = N := ⟨_, rfl⟩
    obtain ⟨GH, hGH⟩ : ∃ N, wi.heap.size = N := ⟨_, rfl⟩
    rw [hG0, hGH] at og
    have HG0 := hid hG0
    have HGH := hid hGH
    clear hG0 hGH
    go_wp2_with fail
    refine (eqISelf _ _ nF _ _ F _ og.slv ow0.slv hnF).mono ?_
    rintro e wj ⟨rfl, b⟩
    have bx0 := bx0.below b
    have ow0 := ow0.below b
    have ex0 := ex0.below b
    have ta00 := ta00.below b
    have ta01 := ta01.below b
    have og := og.below b
    have bj : Below w.heap.size w wj := below_to bi b
    clear b
    have f0 := (bx0.2 0 _ rfl).1
    have f1 := (bx0.2 1 _ rfl).1
    have f2 := (bx0.2 2 _ rfl).1
    have f3 := (bx0.2 3 _ rfl).1
    have g0 := (ex0.2 0 _ rfl).1
    have g1 := (ex0.2 1 _ rfl).1
    have g2 := (ex0.2 2 _ rfl).1
    have g3 := (ex0.2 3 _ rfl).1
    go_upto_region 10 with (fail)
    go_cut [45] (fun sv wx => sv = .bool false ∧ Box wx (w.heap.size) [.int .i64 p00, .int .i64 p01, .slice a00 l00 c00, .slice a01 l01 c01] ∧ OwB 0 NW wx aw nF F ∧ Box wx wy0.heap.size [.int .i64 p00, .int .i64 p01, .slice Ba00 l00 l00, .slice Ba01 l01 l01] ∧ OwB wk.heap.size md0 wx Ba00 l00 x00 ∧ OwB md0 wy0.heap.size wx Ba01 l01 x01 ∧ OwB G0 GH wx ag nF F ∧ Below w.heap.size w wx)
    case first =>
      go_region_with (first
        | (go_at_call 35
           with_reducible refine (toG p00 p01 a00 l00 c00 x00 a01 l01 c01 x01 _ (HSa00.out.below bj.drew) (HSa01.out.below bj.drew) hla00 hla01).mono ?_
           rintro e we ⟨Ea00, Ea01, rfl, ua00, ua01, b⟩
           have be : Below wj.heap.size wj we := below_to (Below.refl wj.heap.size wj).drew b
           have f0 := ((bx0.below be).2 0 _ rfl).1
           have g0 := ((ex0.below be).2 0 _ rfl).1
           have f1 := ((bx0.below be).2 1 _ rfl).1
           have g1 := ((ex0.below be).2 1 _ rfl).1
           have f2 := ((bx0.below be).2 2 _ rfl).1
           have g2 := ((ex0.below be).2 2 _ rfl).1
           have f3 := ((bx0.below be).2 3 _ rfl).1
           have g3 := ((ex0.below be).2 3 _ rfl).1)
        | (go_at_call 37
           refine (eqGSelf p00 p01 _ _ l00 _ _ x00 _ _ l01 _ _ x01 _ (ta00.below be).slv ua00 hla00 (ta01.below be).slv ua01 hla01).mono ?_
           rintro e wf ⟨rfl, b⟩
           have bf : Below wj.heap.size wj wf := below_to be b))
      all_goals (go_wp2_with fail; go_meet; exact ⟨rfl, bx0.below bf, ow0.below bf, ex0.below bf, ta00.below bf, ta01.below bf, og.below bf, below_to bj bf⟩)
    case rest =>
    clear f0 f1 f2 f3
    clear g0 g1 g2 g3
    clear bx0 ow0 ex0 ta00 ta01 og
    obtain ⟨rfl, bx0, ow0, ex0, ta00, ta01, og, bk0⟩ := hcut
    rename World => wv0
    have f0 := (bx0.2 0 _ rfl).1
    have f1 := (bx0.2 1 _ rfl).1
    have f2 := (bx0.2 2 _ rfl).1
    have f3 := (bx0.2 3 _ rfl).1
    have g0 := (ex0.2 0 _ rfl).1
    have g1 := (ex0.2 1 _ rfl).1
    have g2 := (ex0.2 2 _ rfl).1
    have g3 := (ex0.2 3 _ rfl).1
    go_wp2_with fail
    refine (markG p00 p01 _ md0 _ Ba00 l00 l00 x00 Ba01 l01 l01 x01 1 _ ta00 ta01 (by have z := og.2; have y := bk0.size; have x := ex0.1; have v := HMD0.out; omega) (by have x := ex0.1; omega) (by have q0 := HNB.out; have q1 := HNW.out; have q2 := HSI.out; have q3 := HG0.out; have q4 := HGH.out; have a0 := HLO0.out; have b0 := HMD0.out; have c0 := HSZ0.out; have d0 := HAL0.out; omega) (by have q0 := HNB.out; have q1 := HNW.out; have q2 := HSI.out; have q3 := HG0.out; have q4 := HGH.out; have a0 := HLO0.out; have b0 := HMD0.out; have c0 := HSZ0.out; have d0 := HAL0.out; omega) hla00 hla01 (by omega)).mono ?_
    rintro e wm0 ⟨rfl, mm⟩
    clear f0 f1 f2 f3
    clear g0 g1 g2 g3
    have bx0 := bx0.mid mm (.inl (by have q0 := HNB.out; have q1 := HNW.out; have q2 := HSI.out; have q3 := HG0.out; have q4 := HGH.out; have a0 := HLO0.out; have b0 := HMD0.out; have c0 := HSZ0.out; have d0 := HAL0.out; omega))
    have ow0 := ow0.mid mm (.inl (by have q0 := HNB.out; have q1 := HNW.out; have q2 := HSI.out; have q3 := HG0.out; have q4 := HGH.out; have a0 := HLO0.out; have b0 := HMD0.out; have c0 := HSZ0.out; have d0 := HAL0.out; omega))
    have og := og.mid mm (.inr (by have q0 := HNB.out; have q1 := HNW.out; have q2 := HSI.out; have q3 := HG0.out; have q4 := HGH.out; have a0 := HLO0.out; have b0 := HMD0.out; have c0 := HSZ0.out; have d0 := HAL0.out; omega))
    have bm0 : Below w.heap.size w wm0 := bk0.trans (mm.below (by have q0 := HNB.out; have q1 := HNW.out; have q2 := HSI.out; have q3 := HG0.out; have q4 := HGH.out; have a0 := HLO0.out; have b0 := HMD0.out; have c0 := HSZ0.out; have d0 := HAL0.out; omega) bk0.size)
    clear mm ta00 ta01 ex0
    obtain ⟨k0, hk0⟩ : ∃ k, 1 + l00 + l01 = k := ⟨_, rfl⟩
    have hkb0 : k0 ≤ 2097153 := by omega
    rw [hk0]
    clear hk0
    go_wp2_with fail
    refine (eqISelf _ _ nF _ _ F _ og.slv ow0.slv hnF).mono ?_
    rintro e wn ⟨rfl, b⟩
    have bx0 := bx0.below b
    have ow0 := ow0.below b
    have og := og.below b
    have bn : Below w.heap.size w wn := below_to bm0 b
    clear b
    go_wp2_with fail
    refine (markI G0 GH ag nF cg F 1 _ og hnF (by omega)).mono ?_
    rintro e wg ⟨rfl, og, mm⟩
    have bx0 := bx0.mid mm (.inl (by have q0 := HNB.out; have q1 := HNW.out; have q2 := HSI.out; have q3 := HG0.out; have q4 := HGH.out; have a0 := HLO0.out; have b0 := HMD0.out; have c0 := HSZ0.out; have d0 := HAL0.out; omega))
    have ow0 := ow0.mid mm (.inl (by have q0 := HNB.out; have q1 := HNW.out; have q2 := HSI.out; have q3 := HG0.out; have q4 := HGH.out; have a0 := HLO0.out; have b0 := HMD0.out; have c0 := HSZ0.out; have d0 := HAL0.out; omega))
    have bg : Below w.heap.size w wg := bn.trans (mm.below (by have q0 := HNB.out; have q1 := HNW.out; have q2 := HSI.out; have q3 := HG0.out; have q4 := HGH.out; have a0 := HLO0.out; have b0 := HMD0.out; have c0 := HSZ0.out; have d0 := HAL0.out; omega) bn.size)
    clear mm
    obtain ⟨mF, hmF⟩ : ∃ k, 1 + nF = k := ⟨_, rfl⟩
    have hmFb : mF ≤ 1048577 := by omega
    rw [hmF]
    have HMF := hid hmF
    clear hmF
    have hmm0 : ((mF : Int) != (mF : Int)) = false := by simp
    go_wp2_with fail
    refine (heldI ag nF cg 1 _ og.slv hnF (by omega)).mono ?_
    rintro e w' ⟨rfl, hw'⟩
    rw [HMF.out, hw']
    clear hw' w'
    have f0 := (bx0.2 0 _ rfl).1
    have f1 := (bx0.2 1 _ rfl).1
    have f2 := (bx0.2 2 _ rfl).1
    have f3 := (bx0.2 3 _ rfl).1
    go_wp2_with fail
    refine (toG p00 p01 a00 l00 c00 x00 a01 l01 c01 x01 _ (HSa00.out.below bg) (HSa01.out.below bg) hla00 hla01).mono ?_
    rintro e wa ⟨Aa00, Aa01, rfl, sa00, sa01, ba⟩
    have bx0a := bx0.below ba
    clear f0 f1 f2 f3
    have f0 := (bx0a.2 0 _ rfl).1
    have f1 := (bx0a.2 1 _ rfl).1
    have f2 := (bx0a.2 2 _ rfl).1
    have f3 := (bx0a.2 3 _ rfl).1
    go_wp2_with fail
    refine (HBOTH.out _ _ _ _ _ sa00 sa01).2.mono ?_
    rintro e wz ⟨az, cz, rfl, oz, b⟩
    have bz : Below wg.heap.size wg wz := below_to ba b
    clear b ba
    have ow0 := ow0.below bz
    have og := og.below bz
    have bzz := below_to bg bz
    clear f0 f1 f2 f3
    clear bx0 bx0a
    go_wp2_with fail
    refine (eqISelf _ _ nF _ _ F _ oz.slv ow0.slv hnF).mono ?_
    rintro e wu ⟨rfl, b⟩
    have og := og.below b
    have bu : Below w.heap.size w wu := below_to bzz b
    clear b
    go_wp2_with fail
    refine (heldI ag nF cg 1 _ og.slv hnF (by omega)).mono ?_
    rintro e w' ⟨rfl, hw'⟩
    rw [HMF.out, hw']
    clear hw' w'
    go_wp2_with fail
    go_ret
    exact ⟨rfl, bu⟩
end TryWalk
end Go.Proofs.Ytlbmmecjiopbbaa
