/- Games: the value of two rows: the program's side. No condition. -/
import Derived.Test.YtlbmmecjiopbbaaWt3
import Derived.Test.YtlbmmecjiopbbaaWt4
namespace Go.Proofs.Ytlbmmecjiopbbaa
open Go.RowKit Flo Sl Pg
set_option linter.unusedVariables false
set_option linter.unusedSimpArgs false
attribute [local go_sem ↓] Go.wp_at_zero Go.wp_at_succ
attribute [local go_sem] Dt.uponV_value Dt.uponV_skip Dt.uponV_enter
namespace TryWalk
def Best (V : Int × Int → Int) (cur : Int × Int) (k : Nat) (w : World) : Prop := ∃ v u, 0 < cur.2 ∧ StOk V cur.1 cur.2 v u ∧ Vars w k cur.1 cur.2 v u
theorem Sl.SlV.belowB {w w' : World} {a : Option Addr} {len : Nat} {xs : List Int} (h : SlV (Value.int .i64) w a len xs) {B : Nat} (b : Below B w w') (hB : w.heap.size ≤ B) : SlV (Value.int .i64) w' a len xs := h.below (b.mono hB)
set_option maxRecDepth 100000 in
set_option maxHeartbeats 8000000 in
theorem imTwo (r c : Int) (a : Option Addr) (la ca : Nat) (xs : List Int) (b : Option Addr) (lb cb : Nat) (ys : List Int) (w : World) (h : SlV (Value.int .i64) w a la xs) (g : SlV (Value.int .i64) w b lb ys) (hla : la ≤ 1048576) (hlb : lb ≤ 1048576) : Calls Try.prog 70 #[.agg #[.int .i64 r, .int .i64 c, .slice a la ca, .slice b lb cb]] w (RetV5 (twoC r c xs ys) (twoR r c xs ys) (twoD r c xs ys) w) := by
  have bw : Below w.heap.size w (w.alloc (.cells #[.int .i64 r, .int .i64 c, .slice a la ca, .slice b lb cb] 44)) := Below.alloc (Below.refl _ _) (Nat.le_refl _) _
  have hbox : Box (w.alloc (.cells #[.int .i64 r, .int .i64 c, .slice a la ca, .slice b lb cb] 44)) w.heap.size [.int .i64 r, .int .i64 c, .slice a la ca, .slice b lb cb] := Box.new _ _ _
  have HIS := hid (imValidG r c a la ca xs b lb cb ys _ (h.below bw) (g.below bw) hla hlb)
  have hmf : ∀ (fn : Fn) (first cap : Array Value) (w : World), (Instr.makeFunc fn first cap).run Try.prog w = .ok (.func fn first cap) w := fun _ _ _ _ => rfl
  cases hv : validG r c xs ys with
  | false =>
    have e1 : twoC r c xs ys = (0, 0) := by simp [twoC, hv]
    have e2 : twoR r c xs ys = (0, 0) := by simp [twoR, hv]
    have e3 : twoD r c xs ys = false := by simp [twoD, hv]
    rw [e1, e2, e3]
    rw [hv] at HIS
    go_enter Try.func70, Try.ntmps70
    go_wp2_with fail
    refine HIS.out.mono ?_
    rintro e w1 ⟨rfl, b1⟩
    have bw1 := below_to bw b1
    go_wp2_with fail
    exact bodyPost_ret (v := .tuple #[.int .i64 0, .int .i64 0, .int .i64 0, .int .i64 0, .bool false]) (by simp [results, Try.results70, go_sem]) rfl ⟨rfl, bw1⟩
  | true =>
    rw [hv] at HIS
    by_cases hr : r = 2
    · subst hr
      obtain ⟨rn, cn, hrn, rfl, -, -, hc1, hc2, h5, h7, h6, h8⟩ := validG_parts hv
      obtain rfl : rn = 2 := by omega
      have hT : Two xs cn la := ⟨hc1, hc2, by rw [← h.1]; exact h5, fun i hi => at_in h6 (by rw [h.1]; exact hi)⟩
      have e1 : twoC 2 cn xs ys = curI (worstV xs cn) (rowA xs cn) (rowB xs cn) cn := by simp [twoC, hv]
      have e2 : twoR 2 cn xs ys = red (worstV xs cn (twoC 2 cn xs ys)) (twoC 2 cn xs ys).2 := by simp [twoR, hv]
      have e3 : twoD 2 cn xs ys = true := by simp [twoD, hv]
      rw [e2, e1, e3]
      have HX := hid hbox
      have HH := hid (h.below bw)
      have HB := hid bw
      have HTT := hid hT
      clear hv hrn h5 h6 h7 h8 e1 e2 e3 hbox h g bw hT hla hlb
      have HTD : Hid (∀ i k, i < cn → k < cn → (rowA xs cn i - rowB xs cn i - rowA xs cn k + rowB xs cn k).natAbs ≤ 4000 ∧ (rowB xs cn k - rowB xs cn i).natAbs ≤ 4000) := hid (fun i k hi hk => two_d HTT.out hi hk)
      obtain ⟨CF, hCF⟩ : ∃ C, curI (worstV xs cn) (rowA xs cn) (rowB xs cn) cn = C := ⟨_, rfl⟩
      have HCF := hid hCF
      rw [hCF]
      clear hCF
      obtain ⟨RR, hRR⟩ : ∃ R, red (worstV xs cn CF) CF.2 = R := ⟨_, rfl⟩
      have HRR := hid hRR
      rw [hRR]
      clear hRR
      go_enter Try.func70, Try.ntmps70
      go_wp2_with fail
      refine HIS.out.mono ?_
      rintro e wq ⟨rfl, bq⟩
      have HX2 : Hid (Box wq w.heap.size [.int .i64 2, .int .i64 cn, .slice a la ca, .slice b lb cb]) := hid (HX.out.below bq)
      have HB2 : Hid (Below w.heap.size w wq) := hid (below_to HB.out bq)
      have HS2 : Hid (SlV (Value.int .i64) wq a la xs) := hid (HH.out.below bq)
      have hkq : w.heap.size < wq.heap.size := HX2.out.1
      clear bq
      have f0 := (HX2.out.2 0 _ rfl).1
      have HV0 : Hid (Vars ((((wq.alloc (.cells #[.int .i64 0] 2)).alloc (.cells #[.int .i64 0] 2)).alloc (.cells #[.int .i64 0] 2)).alloc (.cells #[.int .i64 0] 2)) wq.heap.size 0 0 0 0) := hid ⟨(((Box.new wq [.int .i64 0] 2).al _).al _).al _, by have := (((Box.new (wq.alloc (.cells #[.int .i64 0] 2)) [.int .i64 0] 2).al (.cells #[.int .i64 0] 2)).al (.cells #[.int .i64 0] 2)); simpa using this, by have := ((Box.new ((wq.alloc (.cells #[.int .i64 0] 2)).alloc (.cells #[.int .i64 0] 2)) [.int .i64 0] 2).al (.cells #[.int .i64 0] 2)); simpa using this, by have := (Box.new (((wq.alloc (.cells #[.int .i64 0] 2)).alloc (.cells #[.int .i64 0] 2)).alloc (.cells #[.int .i64 0] 2)) [.int .i64 0] 2); simpa using this⟩
      have HBW0 : Hid (Below wq.heap.size wq ((((wq.alloc (.cells #[.int .i64 0] 2)).alloc (.cells #[.int .i64 0] 2)).alloc (.cells #[.int .i64 0] 2)).alloc (.cells #[.int .i64 0] 2))) := hid (by repeat (first | exact Below.refl _ _ | refine Below.alloc ?_ (by simp <;> omega) _))
      go_wp2_with fail
      clear f0
      obtain ⟨WA, hWA⟩ : ∃ WA, (((wq.alloc (.cells #[.int .i64 0] 2)).alloc (.cells #[.int .i64 0] 2)).alloc (.cells #[.int .i64 0] 2)).alloc (.cells #[.int .i64 0] 2) = WA := ⟨_, rfl⟩
      rw [hWA] at HV0 HBW0 ⊢
      clear hWA
      refine (tryC cn a la ca xs b lb cb w.heap.size wq.heap.size 0 0 0 0 0 1 WA HTT.out (HX2.out.below HBW0.out) (HS2.out.below HBW0.out) (.inl ⟨rfl, rfl, rfl, rfl⟩) HV0.out (by omega) (by omega) (by omega) (by omega)).mono ?_
      rintro e w1 ⟨rfl, v1, u1, hs1, hv1, hm1⟩
      rw [tryF_first] at hs1 hv1
      have HBW1 : Hid (Below wq.heap.size wq w1) := hid (HBW0.out.trans (hm1.below (Nat.le_refl _) HBW0.out.size))
      have HTC := hid (tryC cn a la ca xs b lb cb w.heap.size wq.heap.size 0 1 v1 u1 1 1 w1 HTT.out (HX2.out.below HBW1.out) (HS2.out.below HBW1.out) hs1 hv1 (by omega) (by omega) (by omega) (by omega))
      clear hs1 hv1 hm1 HV0 HBW0
      go_wp2_with fail
      refine HTC.out.mono ?_
      rintro e w2 ⟨rfl, v2, u2, hs2, hv2, hm2⟩
      rw [curI_zero _ (rowA xs cn) (rowB xs cn)] at hs2 hv2
      have HBW2 : Hid (Below wq.heap.size wq w2) := hid (HBW1.out.trans (hm2.below (Nat.le_refl _) HBW1.out.size))
      have HBEST : Hid (Best (worstV xs cn) (curI (worstV xs cn) (rowA xs cn) (rowB xs cn) 0) wq.heap.size w2) := hid ⟨v2, u2, by rw [← curI_zero _ (rowA xs cn) (rowB xs cn)]; exact tryF_pos _ _ _ (by decide), hs2, hv2⟩
      have f1 := ((HX2.out.below HBW2.out).2 1 _ rfl).1
      clear hs2 hv2 hm2 HTC HBW1
      go_wp2_with fail
      clear f1
      go_loopw [12, 13, 29, 33] (fun x y k z wr => ∃ j : Nat, j ≤ cn ∧ k = .int .i64 j ∧ Best (worstV xs cn) (curI (worstV xs cn) (rowA xs cn) (rowB xs cn) j) wq.heap.size wr ∧ Below wq.heap.size wq wr) (fun _ _ k _ _ => cn - (intOf k).toNat)
      case atStart => exact ⟨0, Nat.zero_le _, rfl, HBEST.out, HBW2.out⟩
      case round =>
        obtain ⟨j, hj, rfl, hbest, hbel⟩ := hrel
        have HBE := hid hbest
        have HBL := hid hbel
        clear hbest hbel HBEST HBW2
        by_cases hlt : j < cn
        · go_wp2_with fail
          go_loopw [13, 33] (fun y z wr2 => ∃ l : Nat, l ≤ j ∧ z = .int .i64 l ∧ Best (worstV xs cn) (curK (worstV xs cn) (rowA xs cn) (rowB xs cn) j l) wq.heap.size wr2 ∧ Below wq.heap.size wq wr2) (fun _ z _ => j - (intOf z).toNat)
          case atStart => exact ⟨0, Nat.zero_le _, rfl, HBE.out, HBL.out⟩
          case round =>
            obtain ⟨l, hl, rfl, hbest, hbel⟩ := hrel
            rename World => wr2
            clear HBE HBL
            have HBL := hid hbel
            by_cases hll : l < j
            · obtain ⟨v3, u3, hp3, hs3, hv3⟩ := hbest
              have hbx := HX2.out.below hbel
              have f0 := (hbx.2 0 _ rfl).1
              have f1 := (hbx.2 1 _ rfl).1
              have f2 := (hbx.2 2 _ rfl).1
              have f3 := (hbx.2 3 _ rfl).1
              have HVR := hid hv3
              have HST := hid hs3
              have HPP := hid hp3
              have HNX := hid (curK_succ (worstV xs cn) (rowA xs cn) (rowB xs cn) j l hp3)
              obtain ⟨hd1, hd2⟩ := HTD.out j l hlt (by omega)
              have HKEEPa : Hid (∀ w', Below wr2.heap.size wr2 w' → Below wr2.heap.size wr2 w' ∧ w'.cell? ⟨w.heap.size, 0, none⟩ = some (.int .i64 2) ∧ w'.cell? ⟨w.heap.size, 1, none⟩ = some (.int .i64 cn) ∧ w'.cell? ⟨w.heap.size, 2, none⟩ = some (.slice a la ca) ∧ w'.cell? ⟨w.heap.size, 3, none⟩ = some (.slice b lb cb)) := hid (fun w' hb => ⟨hb, cellB hb f0, cellB hb f1, cellB hb f2, cellB hb f3⟩)
              have HC1l : Hid (∀ w', Below wr2.heap.size wr2 w' → Calls Try.prog 92 #[.agg #[.int .i64 2, .int .i64 cn, .slice a la ca, .slice b lb cb], .int .i64 1, .int .i64 l] w' fun e w'' => e = .returned (.int .i64 (rowB xs cn l)) ∧ Below w'.heap.size w' w'') := hid (fun w' hb => gAz 2 cn a la ca xs b lb cb 1 l _ _ w' rfl rfl (by omega) hc2 HTT.out.len ((HS2.out.below HBL.out).below hb) (by omega) (by omega))
              have HC1k : Hid (∀ w', Below wr2.heap.size wr2 w' → Calls Try.prog 92 #[.agg #[.int .i64 2, .int .i64 cn, .slice a la ca, .slice b lb cb], .int .i64 1, .int .i64 j] w' fun e w'' => e = .returned (.int .i64 (rowB xs cn j)) ∧ Below w'.heap.size w' w'') := hid (fun w' hb => gAz 2 cn a la ca xs b lb cb 1 j _ _ w' rfl rfl (by omega) hc2 HTT.out.len ((HS2.out.below HBL.out).below hb) (by omega) hlt)
              have HC0k : Hid (∀ w', Below wr2.heap.size wr2 w' → Calls Try.prog 92 #[.agg #[.int .i64 2, .int .i64 cn, .slice a la ca, .slice b lb cb], .int .i64 0, .int .i64 j] w' fun e w'' => e = .returned (.int .i64 (rowA xs cn j)) ∧ Below w'.heap.size w' w'') := hid (fun w' hb => gAz 2 cn a la ca xs b lb cb 0 j _ _ w' rfl rfl (by omega) hc2 HTT.out.len ((HS2.out.below HBL.out).below hb) (by omega) hlt)
              have HC0l : Hid (∀ w', Below wr2.heap.size wr2 w' → Calls Try.prog 92 #[.agg #[.int .i64 2, .int .i64 cn, .slice a la ca, .slice b lb cb], .int .i64 0, .int .i64 l] w' fun e w'' => e = .returned (.int .i64 (rowA xs cn l)) ∧ Below w'.heap.size w' w'') := hid (fun w' hb => gAz 2 cn a la ca xs b lb cb 0 l _ _ w' rfl rfl (by omega) hc2 HTT.out.len ((HS2.out.below HBL.out).below hb) (by omega) (by omega))
              have q1 := HTT.out.at0 hlt
              have q2 := HTT.out.at1 hlt
              have q3 := HTT.out.at0 (show l < cn by omega)
              have q4 := HTT.out.at1 (show l < cn by omega)
              change -1000 ≤ rowA xs cn j ∧ rowA xs cn j ≤ 1000 at q1
              change -1000 ≤ rowB xs cn j ∧ rowB xs cn j ≤ 1000 at q2
              change -1000 ≤ rowA xs cn l ∧ rowA xs cn l ≤ 1000 at q3
              change -1000 ≤ rowB xs cn l ∧ rowB xs cn l ≤ 1000 at q4
              obtain ⟨X1, hX1⟩ : ∃ X, rowA xs cn j = X := ⟨_, rfl⟩
              obtain ⟨X2, hX2⟩ : ∃ X, rowB xs cn j = X := ⟨_, rfl⟩
              obtain ⟨X3, hX3⟩ : ∃ X, rowA xs cn l = X := ⟨_, rfl⟩
              obtain ⟨X4, hX4⟩ : ∃ X, rowB xs cn l = X := ⟨_, rfl⟩
              rw [hX1, hX2, hX3, hX4] at hd1
              rw [hX4, hX2] at hd2
              rw [hX4] at HC1l
              rw [hX2] at HC1k
              rw [hX1] at HC0k
              rw [hX3] at HC0l
              rw [hX1, hX2, hX3, hX4] at HNX
              rw [hX1] at q1
              rw [hX2] at q2
              rw [hX3] at q3
              rw [hX4] at q4
              obtain ⟨nn, hnn⟩ : ∃ d, X4 - X2 = d := ⟨_, rfl⟩
              obtain ⟨d1, hd1'⟩ : ∃ d, X1 - X2 = d := ⟨_, rfl⟩
              obtain ⟨d2, hd2'⟩ : ∃ d, d1 - X3 = d := ⟨_, rfl⟩
              obtain ⟨d3, hd3'⟩ : ∃ d, d2 + X4 = d := ⟨_, rfl⟩
              rw [hd1', hd2', hd3'] at hd1 HNX
              rw [hnn] at hd2 HNX
              have t1 : IntKind.i64.wrap d1 = d1 := IntWalk.i64_in _ (by omega)
              have t2 : IntKind.i64.wrap d2 = d2 := IntWalk.i64_in _ (by omega)
              have t3 : IntKind.i64.wrap d3 = d3 := IntWalk.i64_in _ (by omega)
              have t4 : IntKind.i64.wrap nn = nn := IntWalk.i64_in _ (by omega)
              have hb1 : -4000 ≤ nn := by omega
              have hb2 : nn ≤ 4000 := by omega
              have hb3 : -4000 ≤ d3 := by omega
              have hb4 : d3 ≤ 4000 := by omega
              clear hX1 hX2 hX3 hX4 hd1 hd2 q1 q2 q3 q4 hs3 hv3 hp3 hbel hbx f0 f1 f2 f3
              go_wp2_with fail
              refine Dt.start (n := 24) (by kernel_rfl) (by kernel_rfl) ?_
              refine Dt.enter (S := fun w' => Below wr2.heap.size wr2 w' ∧ w'.cell? ⟨w.heap.size, 0, none⟩ = some (.int .i64 2) ∧ w'.cell? ⟨w.heap.size, 1, none⟩ = some (.int .i64 cn) ∧ w'.cell? ⟨w.heap.size, 2, none⟩ = some (.slice a la ca) ∧ w'.cell? ⟨w.heap.size, 3, none⟩ = some (.slice b lb cb)) (T := [23]) (m := 1) (n := 23) (by kernel_rfl) (by kernel_rfl) (by kernel_rfl) (by kernel_rfl) ?aS ?aD
              case aS => (first | exact HKEEPa.out _ (Below.refl _ _).drew | (fail))
              case aD =>
              refine Dt.quiet (i := 0) (v := ?va0) rfl rfl (by kernel_rfl) (by kernel_rfl) (by kernel_rfl) ?ya0 ?ra0
              case ya0 => (intro w hSw; (try dsimp only at hSw); go_simp; try with_reducible rfl)
              case ra0 =>
              try simp only [Act.put, List.setIfInBounds_toArray, List.set_cons_zero, List.set_cons_succ]
              refine Dt.quiet (i := 1) (v := ?va1) rfl rfl (by kernel_rfl) (by kernel_rfl) (by kernel_rfl) ?ya1 ?ra1
              case ya1 => (intro w hSw; (try dsimp only at hSw); go_simp; try with_reducible rfl)
              case ra1 =>
              try simp only [Act.put, List.setIfInBounds_toArray, List.set_cons_zero, List.set_cons_succ]
              refine Dt.quiet (i := 2) (v := ?va2) rfl rfl (by kernel_rfl) (by kernel_rfl) (by kernel_rfl) ?ya2 ?ra2
              case ya2 => (intro w hSw; (try dsimp only at hSw); go_simp; try with_reducible rfl)
              case ra2 =>
              try simp only [Act.put, List.setIfInBounds_toArray, List.set_cons_zero, List.set_cons_succ]
              refine Dt.act (i := 3) (v := ?va3) rfl rfl (by kernel_rfl) (by kernel_rfl) (by kernel_rfl) ?ya3 ?ra3
              case ya3 => (intro w K hSw hK; (try dsimp only at hSw); go_simp; refine Calls.mono (HC1l.out _ hSw.1) ?_; rintro e w5 ⟨rfl, hb5⟩; refine ⟨_, rfl, hK.out _ _ ?_ (HKEEPa.out _ (below_to hSw.1 hb5))⟩; with_reducible rfl)
              case ra3 =>
              try simp only [Act.put, List.setIfInBounds_toArray, List.set_cons_zero, List.set_cons_succ]
              refine Dt.quiet (i := 4) (v := ?va4) rfl rfl (by kernel_rfl) (by kernel_rfl) (by kernel_rfl) ?ya4 ?ra4
              case ya4 => (intro w hSw; (try dsimp only at hSw); go_simp; try with_reducible rfl)
              case ra4 =>
              try simp only [Act.put, List.setIfInBounds_toArray, List.set_cons_zero, List.set_cons_succ]
              refine Dt.quiet (i := 5) (v := ?va5) rfl rfl (by kernel_rfl) (by kernel_rfl) (by kernel_rfl) ?ya5 ?ra5
              case ya5 => (intro w hSw; (try dsimp only at hSw); go_simp; try with_reducible rfl)
              case ra5 =>
              try simp only [Act.put, List.setIfInBounds_toArray, List.set_cons_zero, List.set_cons_succ]
              refine Dt.act (i := 6) (v := ?va6) rfl rfl (by kernel_rfl) (by kernel_rfl) (by kernel_rfl) ?ya6 ?ra6
              case ya6 => (intro w K hSw hK; (try dsimp only at hSw); go_simp; refine Calls.mono (HC1k.out _ hSw.1) ?_; rintro e w5 ⟨rfl, hb5⟩; refine ⟨_, rfl, hK.out _ _ ?_ (HKEEPa.out _ (below_to hSw.1 hb5))⟩; with_reducible rfl)
              case ra6 =>
              try simp only [Act.put, List.setIfInBounds_toArray, List.set_cons_zero, List.set_cons_succ]
              refine Dt.quiet (i := 7) (v := ?va7) rfl rfl (by kernel_rfl) (by kernel_rfl) (by kernel_rfl) ?ya7 ?ra7
              case ya7 => (intro w hSw; (try dsimp only at hSw); go_simp; try with_reducible rfl)
              case ra7 =>
              try simp only [Act.put, List.setIfInBounds_toArray, List.set_cons_zero, List.set_cons_succ]
              refine Dt.quiet (i := 8) (v := ?va8) rfl rfl (by kernel_rfl) (by kernel_rfl) (by kernel_rfl) ?ya8 ?ra8
              case ya8 => (intro w hSw; (try dsimp only at hSw); go_simp; try with_reducible rfl)
              case ra8 =>
              try simp only [Act.put, List.setIfInBounds_toArray, List.set_cons_zero, List.set_cons_succ]
              refine Dt.quiet (i := 9) (v := ?va9) rfl rfl (by kernel_rfl) (by kernel_rfl) (by kernel_rfl) ?ya9 ?ra9
              case ya9 => (intro w hSw; (try dsimp only at hSw); go_simp; try with_reducible rfl)
              case ra9 =>
              try simp only [Act.put, List.setIfInBounds_toArray, List.set_cons_zero, List.set_cons_succ]
              refine Dt.act (i := 10) (v := ?va10) rfl rfl (by kernel_rfl) (by kernel_rfl) (by kernel_rfl) ?ya10 ?ra10
              case ya10 => (intro w K hSw hK; (try dsimp only at hSw); go_simp; refine Calls.mono (HC0k.out _ hSw.1) ?_; rintro e w5 ⟨rfl, hb5⟩; refine ⟨_, rfl, hK.out _ _ ?_ (HKEEPa.out _ (below_to hSw.1 hb5))⟩; with_reducible rfl)
              case ra10 =>
              try simp only [Act.put, List.setIfInBounds_toArray, List.set_cons_zero, List.set_cons_succ]
              refine Dt.quiet (i := 11) (v := ?va11) rfl rfl (by kernel_rfl) (by kernel_rfl) (by kernel_rfl) ?ya11 ?ra11
              case ya11 => (intro w hSw; (try dsimp only at hSw); go_simp; try with_reducible rfl)
              case ra11 =>
              try simp only [Act.put, List.setIfInBounds_toArray, List.set_cons_zero, List.set_cons_succ]
              refine Dt.quiet (i := 12) (v := ?va12) rfl rfl (by kernel_rfl) (by kernel_rfl) (by kernel_rfl) ?ya12 ?ra12
              case ya12 => (intro w hSw; (try dsimp only at hSw); go_simp; try with_reducible rfl)
              case ra12 =>
              try simp only [Act.put, List.setIfInBounds_toArray, List.set_cons_zero, List.set_cons_succ]
              refine Dt.act (i := 13) (v := ?va13) rfl rfl (by kernel_rfl) (by kernel_rfl) (by kernel_rfl) ?ya13 ?ra13
              case ya13 => (intro w K hSw hK; (try dsimp only at hSw); go_simp; refine Calls.mono (HC1k.out _ hSw.1) ?_; rintro e w5 ⟨rfl, hb5⟩; refine ⟨_, rfl, hK.out _ _ ?_ (HKEEPa.out _ (below_to hSw.1 hb5))⟩; with_reducible rfl)
              case ra13 =>
              try simp only [Act.put, List.setIfInBounds_toArray, List.set_cons_zero, List.set_cons_succ]
              refine Dt.quiet (i := 14) (v := ?va14) rfl rfl (by kernel_rfl) (by kernel_rfl) (by kernel_rfl) ?ya14 ?ra14
              case ya14 => (intro w hSw; (try dsimp only at hSw); go_simp; try with_reducible rfl)
              case ra14 =>
              try simp only [Act.put, List.setIfInBounds_toArray, List.set_cons_zero, List.set_cons_succ]
              refine Dt.quiet (i := 15) (v := ?va15) rfl rfl (by kernel_rfl) (by kernel_rfl) (by kernel_rfl) ?ya15 ?ra15
              case ya15 => (intro w hSw; (try dsimp only at hSw); go_simp; try with_reducible rfl)
              case ra15 =>
              try simp only [Act.put, List.setIfInBounds_toArray, List.set_cons_zero, List.set_cons_succ]
              refine Dt.quiet (i := 16) (v := ?va16) rfl rfl (by kernel_rfl) (by kernel_rfl) (by kernel_rfl) ?ya16 ?ra16
              case ya16 => (intro w hSw; (try dsimp only at hSw); go_simp; try with_reducible rfl)
              case ra16 =>
              try simp only [Act.put, List.setIfInBounds_toArray, List.set_cons_zero, List.set_cons_succ]
              refine Dt.act (i := 17) (v := ?va17) rfl rfl (by kernel_rfl) (by kernel_rfl) (by kernel_rfl) ?ya17 ?ra17
              case ya17 => (intro w K hSw hK; (try dsimp only at hSw); go_simp; refine Calls.mono (HC0l.out _ hSw.1) ?_; rintro e w5 ⟨rfl, hb5⟩; refine ⟨_, rfl, hK.out _ _ ?_ (HKEEPa.out _ (below_to hSw.1 hb5))⟩; with_reducible rfl)
              case ra17 =>
              try simp only [Act.put, List.setIfInBounds_toArray, List.set_cons_zero, List.set_cons_succ]
              refine Dt.quiet (i := 18) (v := ?va18) rfl rfl (by kernel_rfl) (by kernel_rfl) (by kernel_rfl) ?ya18 ?ra18
              case ya18 => (intro w hSw; (try dsimp only at hSw); go_simp; try with_reducible rfl)
              case ra18 =>
              try simp only [Act.put, List.setIfInBounds_toArray, List.set_cons_zero, List.set_cons_succ]
              refine Dt.quiet (i := 19) (v := ?va19) rfl rfl (by kernel_rfl) (by kernel_rfl) (by kernel_rfl) ?ya19 ?ra19
              case ya19 => (intro w hSw; (try dsimp only at hSw); go_simp; try with_reducible rfl)
              case ra19 =>
              try simp only [Act.put, List.setIfInBounds_toArray, List.set_cons_zero, List.set_cons_succ]
              refine Dt.quiet (i := 20) (v := ?va20) rfl rfl (by kernel_rfl) (by kernel_rfl) (by kernel_rfl) ?ya20 ?ra20
              case ya20 => (intro w hSw; (try dsimp only at hSw); go_simp; try with_reducible rfl)
              case ra20 =>
              try simp only [Act.put, List.setIfInBounds_toArray, List.set_cons_zero, List.set_cons_succ]
              refine Dt.act (i := 21) (v := ?va21) rfl rfl (by kernel_rfl) (by kernel_rfl) (by kernel_rfl) ?ya21 ?ra21
              case ya21 => (intro w K hSw hK; (try dsimp only at hSw); go_simp; refine Calls.mono (HC1l.out _ hSw.1) ?_; rintro e w5 ⟨rfl, hb5⟩; refine ⟨_, rfl, hK.out _ _ ?_ (HKEEPa.out _ (below_to hSw.1 hb5))⟩; with_reducible rfl)
              case ra21 =>
              try simp only [Act.put, List.setIfInBounds_toArray, List.set_cons_zero, List.set_cons_succ]
              refine Dt.quiet (i := 22) (v := ?va22) rfl rfl (by kernel_rfl) (by kernel_rfl) (by kernel_rfl) ?ya22 ?ra22
              case ya22 => (intro w hSw; (try dsimp only at hSw); go_simp; try with_reducible rfl)
              case ra22 =>
              try simp only [Act.put, List.setIfInBounds_toArray, List.set_cons_zero, List.set_cons_succ]
              refine Dt.last 23 (by kernel_rfl) (by kernel_rfl) (by kernel_rfl) ?_
              intro wza hSza
              simp only [List.drop_succ_cons, List.drop_zero]
              obtain ⟨hz0, -⟩ := hSza
              have HZ0 := hid hz0
              clear hz0
              go_wp2_with fail
              refine (tryC cn a la ca xs b lb cb w.heap.size wq.heap.size _ _ v3 u3 nn d3 _ HTT.out ((HX2.out.below HBL.out).below HZ0.out) ((HS2.out.below HBL.out).below HZ0.out) HST.out (HVR.out.below HZ0.out) hb1 hb2 hb3 hb4).mono ?_
              rintro e w7 ⟨rfl, v4, u4, hs4, hv4, hm4⟩
              have HB7 : Hid (Below wq.heap.size wq w7) := hid ((HBL.out.trans (HZ0.out.mono HBL.out.size)).trans (hm4.below (Nat.le_refl _) (Nat.le_trans HBL.out.size HZ0.out.size)))
              have HB8 : Hid (Best (worstV xs cn) (curK (worstV xs cn) (rowA xs cn) (rowB xs cn) j (l + 1)) wq.heap.size w7) := hid (by
                rw [HNX.out]
                exact ⟨v4, u4, tryF_pos _ _ _ HPP.out, hs4, hv4⟩)
              clear hs4 hv4 hm4
              go_wp2_with fail
              go_roundw
              case rel => exact ⟨l + 1, by omega, by go_num, HB8.out, HB7.out⟩
              case measure => simp [intOf]; omega
            · obtain rfl : l = j := by omega
              have HB8 := hid hbest
              clear hbest hbel
              go_wp2_with fail
              go_roundw
              case rel => exact ⟨l + 1, by omega, by go_num, by rw [curI_succ]; exact HB8.out, HBL.out⟩
              case measure => simp [intOf]; omega
        · obtain rfl : j = cn := by omega
          have hbe := HBE.out
          rw [HCF.out] at hbe
          obtain ⟨v3, u3, hp3, hs3, hv3⟩ := hbe
          have g0 := (hv3.1.2 0 _ rfl).1
          have g1 := (hv3.2.1.2 0 _ rfl).1
          have g2 := (hv3.2.2.1.2 0 _ rfl).1
          have g3 := (hv3.2.2.2.2 0 _ rfl).1
          have HVU : Hid (v3 = RR.1 ∧ u3 = RR.2) := hid (by
            rcases hs3 with ⟨-, h2, -, -⟩ | ⟨-, -, -, -, h5⟩
            · omega
            · have h6 := h5.trans HRR.out
              exact ⟨congrArg Prod.fst h6, congrArg Prod.snd h6⟩)
          clear hs3 hv3 hp3
          obtain ⟨CF1, CF2⟩ := CF
          go_wp2_with fail
          go_quiet (fail)
          go_wp2_with fail
          refine bodyPost_ret (v := .tuple #[.int .i64 CF1, .int .i64 CF2, .int .i64 v3, .int .i64 u3, .bool true]) (by simp [results, Try.results70, go_sem]) rfl ⟨?_, ?_⟩
          · rw [HVU.out.1, HVU.out.2]
          · exact below_drewN (HB2.out.trans (HBL.out.mono HB2.out.size)) _
    · have hrb : (r == 2) = false := by simpa using hr
      have hrc : (r != 2) = true := by simp [hr]
      have e3 : twoD r c xs ys = false := by simp [twoD, hr]
      have e1 : twoC r c xs ys = (0, 0) := by simp [twoC, hr]
      have e2 : twoR r c xs ys = (0, 0) := by simp [twoR, hr]
      rw [e1, e2, e3]
      have HX := hid hbox
      have HB := hid bw
      clear hv hr e1 e2 e3 hbox h g bw hla hlb
      go_enter Try.func70, Try.ntmps70
      go_wp2_with fail
      refine HIS.out.mono ?_
      rintro e wq ⟨rfl, bq⟩
      have HB2 := hid (below_to HB.out bq)
      have f0 := ((HX.out.below bq).2 0 _ rfl).1
      clear bq
      go_wp2_with fail
      exact bodyPost_ret (v := .tuple #[.int .i64 0, .int .i64 0, .int .i64 0, .int .i64 0, .bool false]) (by simp [results, Try.results70, go_sem]) rfl ⟨rfl, HB2.out⟩
end TryWalk
end Go.Proofs.Ytlbmmecjiopbbaa
