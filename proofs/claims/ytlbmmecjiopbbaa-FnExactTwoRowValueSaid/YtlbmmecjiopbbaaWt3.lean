/- Games: one try of a chance, by the program's closure. No condition. -/
import Derived.Test.YtlbmmecjiopbbaaWt2
import Derived.Test.YtlbmmecjiopbbaaWi9
namespace Go.Proofs.Ytlbmmecjiopbbaa
open Go.RowKit Flo Sl Pg
set_option linter.unusedVariables false
set_option linter.unusedSimpArgs false
attribute [local go_sem ↓] Go.wp_at_zero Go.wp_at_succ
attribute [local go_sem] Dt.uponV_value Dt.uponV_skip Dt.uponV_enter
namespace TryWalk
/-- The four variables of the best chance so far. -/
def Vars (w : World) (k : Nat) (p q v u : Int) : Prop := Box w k [.int .i64 p] ∧ Box w (k + 1) [.int .i64 q] ∧ Box w (k + 2) [.int .i64 v] ∧ Box w (k + 3) [.int .i64 u]
def StOk (V : Int × Int → Int) (p q v u : Int) : Prop := (p = 0 ∧ q = 0 ∧ v = 0 ∧ u = 0) ∨ (0 ≤ p ∧ p ≤ q ∧ 0 < q ∧ q ≤ 4000 ∧ (v, u) = red (V (p, q)) q)
def TryPost (V : Int × Int → Int) (cur : Int × Int) (n d : Int) (k : Nat) (w : World) (e : Ending) (w' : World) : Prop := e = .returned (.tuple #[]) ∧ ∃ v u, StOk V (tryF V cur n d).1 (tryF V cur n d).2 v u ∧ Vars w' k (tryF V cur n d).1 (tryF V cur n d).2 v u ∧ Mid k (k + 4) w w'
theorem Box.setO {w : World} {k : Nat} {vs : List Value} (h : Box w k vs) {p : Addr} {v : Value} (hp : p.block ≠ k) : Box (w.setCell p v) k vs := by
  refine ⟨by simpa [World.setCell] using h.1, fun i x hx => ?_⟩
  have e : p ≠ (⟨k, i, none⟩ : Addr) := fun e => hp (by rw [e])
  exact ⟨(World.cell?_setCell_other _ _ _ _ e).trans (h.2 i x hx).1, by simpa using (h.2 i x hx).2⟩
theorem Box.setS {w : World} {k : Nat} {x y : Value} (h : Box w k [x]) : Box (w.setCell ⟨k, 0, none⟩ y) k [y] := h.set 0 y
theorem Vars.below {w w' : World} {k : Nat} {p q v u : Int} (h : Vars w k p q v u) (b : Below w.heap.size w w') : Vars w' k p q v u := ⟨h.1.below b, h.2.1.below b, h.2.2.1.below b, h.2.2.2.below b⟩
theorem stOk_bd {xs : List Int} {cn la : Nat} (hT : Two xs cn la) {p q v u : Int} (h : StOk (worstV xs cn) p q v u) : 0 ≤ p ∧ p ≤ 4000 ∧ 0 ≤ q ∧ q ≤ 4000 ∧ -8000000 ≤ v ∧ v ≤ 8000000 ∧ -4000 ≤ u ∧ u ≤ 4000 := by
  rcases h with ⟨rfl, rfl, rfl, rfl⟩ | ⟨h1, h2, h3, h4, h5⟩
  · omega
  · have hw := hT.worst (x := (p, q)) h1 h2 h4
    have hr := red_le (worstV xs cn (p, q)) q (by omega)
    rw [← h5] at hr
    simp only at hr
    omega
theorem tryF_no (V : Int × Int → Int) (cur : Int × Int) (n d : Int) (h : ¬ (d ≠ 0 ∧ 0 ≤ (red n d).1 ∧ (red n d).1 ≤ (red n d).2)) : tryF V cur n d = cur := by rw [tryF, if_neg h]
set_option maxRecDepth 100000 in
set_option maxHeartbeats 8000000 in
theorem tryC (cn : Nat) (a : Option Addr) (la ca : Nat) (xs : List Int) (b : Option Addr) (lb cb : Nat) (kg k : Nat) (p q v u n d : Int) (w : World) (hT : Two xs cn la) (hbox : Box w kg [.int .i64 2, .int .i64 cn, .slice a la ca, .slice b lb cb]) (h : SlV (Value.int .i64) w a la xs)
    (hst : StOk (worstV xs cn) p q v u) (hvs : Vars w k p q v u) (hn1 : -4000 ≤ n) (hn2 : n ≤ 4000) (hd1 : -4000 ≤ d) (hd2 : d ≤ 4000) :
    Calls Try.prog 115 #[.int .i64 n, .int .i64 d, .pointer (some ⟨kg, 0, none⟩), .pointer (some ⟨k + 3, 0, none⟩), .pointer (some ⟨k + 2, 0, none⟩), .pointer (some ⟨k + 1, 0, none⟩), .pointer (some ⟨k, 0, none⟩)] w (TryPost (worstV xs cn) (p, q) n d k w) := by
  have HV := hid hvs
  have HST := hid hst
  by_cases hd0 : d = 0
  · subst hd0
    have HT : Hid (tryF (worstV xs cn) (p, q) n 0 = (p, q)) := hid (tryF_no _ _ _ _ (fun h => h.1 rfl))
    clear hst hvs hbox h hT
    go_enter Try.func115, Try.ntmps115
    go_wp2_with (go_at_call 116; refine (reducedNo n _).mono ?_; rintro e w5 ⟨rfl, rfl⟩)
    go_end0
    refine ⟨rfl, v, u, ?_, ?_, Mid.refl _ _ _⟩ <;> rw [HT.out]
    · exact HST.out
    · exact HV.out
  · have HR := hid (fun w' => reduced n d w' (by omega) (by omega) (by omega) (by omega) hd0)
    have hle := red_le n d hd0
    obtain ⟨r1, hr1⟩ : ∃ r, (red n d).1 = r := ⟨_, rfl⟩
    obtain ⟨r2, hr2⟩ : ∃ r, (red n d).2 = r := ⟨_, rfl⟩
    have hrr : red n d = (r1, r2) := by rw [← hr1, ← hr2]
    rw [hr1, hr2] at hle HR
    have HW := hid (fun w' => within r1 0 r2 w')
    by_cases hin : 0 ≤ r1 ∧ r1 ≤ r2
    · have hiB : inB 0 r2 r1 = true := by unfold inB; exact decide_eq_true hin
      rw [hiB] at HW
      obtain ⟨hi0, hi1⟩ := hin
      have hgood := red_good n d hd0 (by rw [hr1]; exact hi0)
      rw [hrr] at hgood
      have hr20 : 0 < r2 := hgood.2.1
      have hr24 : r2 ≤ 4000 := by omega
      have hr14 : r1 ≤ 4000 := by omega
      have HTF : Hid (tryF (worstV xs cn) (p, q) n d = if q = 0 ∨ Better (worstV xs cn) (r1, r2) (p, q) then (r1, r2) else (p, q)) := hid (by
        rw [tryF, hrr, if_pos ⟨hd0, hi0, hi1⟩])
      have hbd := stOk_bd hT hst
      obtain ⟨hp1, hp2, hq1, hq2, hv1, hv2, hu1, hu2⟩ := hbd
      obtain ⟨f, hf⟩ : ∃ f, gainK xs cn (r1, r2) = f := ⟨_, rfl⟩
      have HF := hid hf
      have HLV : Hid (worstV xs cn (r1, r2) = lowV f cn) := hid (by rw [← hf]; rfl)
      have HLB := hid (show ∀ k, k ≤ cn → -8000000 ≤ lowV f k ∧ lowV f k ≤ 8000000 from fun k hk => lowV_bd f 8000000 (by omega) k (fun i hi => by rw [← HF.out]; exact gainK_bd hi0 hi1 hr24 (hT.at0 (by omega)) (hT.at1 (by omega))))
      obtain ⟨dd, hdd⟩ : ∃ dd, r2 - r1 = dd := ⟨_, rfl⟩
      have hdd0 : 0 ≤ dd := by omega
      have hdd1 : dd ≤ 4000 := by omega
      have hddw : IntKind.i64.wrap dd = dd := IntWalk.i64_in _ (by omega)
      have hc1 := hT.c1
      have hc2 := hT.c2
      have HX := hid hbox
      have HS := hid h
      have HTT := hid hT
      have HD0 := hid hd0
      have HRR := hid hrr
      clear hst hvs hbox h hT hiB hgood hr1 hr2 hrr hf hd0 hle
      go_enter Try.func115, Try.ntmps115
      go_wp2_with fail
      refine (HR.out _).mono ?_
      rintro e wa ⟨rfl, n0, hwa⟩
      have HBA : Hid (Below w.heap.size w wa) := hid (by rw [hwa]; exact below_drewN (Below.refl _ _) n0)
      have HXA := hid (HX.out.below HBA.out)
      clear hwa
      have f1 := (HXA.out.2 1 _ rfl).1
      go_wp2_with (go_at_call 117; refine (HW.out _).mono ?_; rintro e w1 ⟨rfl, rfl⟩)
      clear f1
      go_loopw [10, 11, 12, 31] (fun l x y i wr => ∃ j : Nat, j ≤ cn ∧ i = .int .i64 j ∧ l = .int .i64 (lowV f j) ∧ Below w1.heap.size w1 wr) (fun _ _ _ i _ => cn - (intOf i).toNat)
      case atStart => exact ⟨0, Nat.zero_le _, rfl, rfl, Below.refl _ _⟩
      case round =>
        obtain ⟨j, hj, rfl, rfl, hbel⟩ := hrel
        have HBEL := hid hbel
        have hbx := HXA.out.below hbel
        have f0 := (hbx.2 0 _ rfl).1
        have f1 := (hbx.2 1 _ rfl).1
        have f2 := (hbx.2 2 _ rfl).1
        have f3 := (hbx.2 3 _ rfl).1
        clear hbx hbel
        obtain ⟨L, hL⟩ : ∃ L, lowV f j = L := ⟨_, rfl⟩
        have HL := hid hL
        rw [hL]
        clear hL
        by_cases hlt : j < cn
        · have q1 := HTT.out.at0 hlt
          have q2 := HTT.out.at1 hlt
          have HC1 : Hid (∀ w', Below wr.heap.size wr w' → Calls Try.prog 92 #[.agg #[.int .i64 2, .int .i64 cn, .slice a la ca, .slice b lb cb], .int .i64 0, .int .i64 j] w' fun e w'' => e = .returned (.int .i64 (at2 xs cn 0 j)) ∧ Below w'.heap.size w' w'') := hid (fun w' hb => gAz 2 cn a la ca xs b lb cb 0 j _ _ w' rfl rfl (by omega) hc2 HTT.out.len (((HS.out.below HBA.out).below HBEL.out).below hb) (by omega) hlt)
          have HC2 : Hid (∀ w', Below wr.heap.size wr w' → Calls Try.prog 92 #[.agg #[.int .i64 2, .int .i64 cn, .slice a la ca, .slice b lb cb], .int .i64 1, .int .i64 j] w' fun e w'' => e = .returned (.int .i64 (at2 xs cn 1 j)) ∧ Below w'.heap.size w' w'') := hid (fun w' hb => gAz 2 cn a la ca xs b lb cb 1 j _ _ w' rfl rfl (by omega) hc2 HTT.out.len (((HS.out.below HBA.out).below HBEL.out).below hb) (by omega) hlt)
          have HV1 : Hid (f j = r1 * at2 xs cn 0 j + dd * at2 xs cn 1 j) := hid (by rw [← HF.out, ← hdd]; rfl)
          generalize at2 xs cn 0 j = A at *
          generalize at2 xs cn 1 j = B at *
          obtain ⟨m1, hm1⟩ : ∃ m, r1 * A = m := ⟨_, rfl⟩
          obtain ⟨m2, hm2⟩ : ∃ m, dd * B = m := ⟨_, rfl⟩
          obtain ⟨m3, hm3⟩ : ∃ m, m1 + m2 = m := ⟨_, rfl⟩
          have g1 := mul_bd (a := r1) (A := 4000) (by omega) hr14 q1.1 q1.2
          have g2 := mul_bd (a := dd) (A := 4000) (by omega) hdd1 q2.1 q2.2
          rw [hm1] at g1
          rw [hm2] at g2
          have t1 : IntKind.i64.wrap m1 = m1 := IntWalk.i64_in _ (by omega)
          have t2 : IntKind.i64.wrap m2 = m2 := IntWalk.i64_in _ (by omega)
          have t3 : IntKind.i64.wrap m3 = m3 := IntWalk.i64_in _ (by omega)
          have HV2 : Hid (f j = m3) := hid (by rw [HV1.out, hm1, hm2, hm3])
          have HKEEP0 : Hid (∀ w', Below wr.heap.size wr w' → Below wr.heap.size wr w' ∧ w'.cell? ⟨kg, 0, none⟩ = some (.int .i64 2) ∧ w'.cell? ⟨kg, 1, none⟩ = some (.int .i64 cn) ∧ w'.cell? ⟨kg, 2, none⟩ = some (.slice a la ca) ∧ w'.cell? ⟨kg, 3, none⟩ = some (.slice b lb cb)) := hid (fun w' hb => ⟨hb, cellB hb f0, cellB hb f1, cellB hb f2, cellB hb f3⟩)
          clear HV1 q1 q2 g1 g2
          by_cases hup : j = 0 ∨ m3 < L
          · have HS2 : Hid (lowV f (j + 1) = m3) := hid (by rw [lowV, HV2.out, HL.out, if_pos hup])
            by_cases hk0 : j = 0
            · have h0b : ((j : Int) == 0) = true := by simp; omega
              clear hup hk0
              have HKEEPa := HKEEP0
              clear HKEEP0
              go_wp2_with fail
              refine Dt.start (n := 14) (by kernel_rfl) (by kernel_rfl) ?_
              refine Dt.enter (S := fun w' => Below wr.heap.size wr w' ∧ w'.cell? ⟨kg, 0, none⟩ = some (.int .i64 2) ∧ w'.cell? ⟨kg, 1, none⟩ = some (.int .i64 cn) ∧ w'.cell? ⟨kg, 2, none⟩ = some (.slice a la ca) ∧ w'.cell? ⟨kg, 3, none⟩ = some (.slice b lb cb)) (T := []) (m := 0) (n := 14) (by kernel_rfl) (by kernel_rfl) (by kernel_rfl) (by kernel_rfl) ?aS ?aD
              case aS => (first | exact HKEEPa.out _ (Below.refl _ _).drew | (fail))
              case aD =>
              refine Dt.quiet (i := 0) (v := ?va0) rfl rfl (by kernel_rfl) (by kernel_rfl) (by kernel_rfl) ?ya0 ?ra0
              case ya0 => (intro w hSw; (try dsimp only at hSw); go_simp; try with_reducible rfl)
              case ra0 =>
              try simp only [Act.put, List.setIfInBounds_toArray, List.set_cons_zero, List.set_cons_succ]
              refine Dt.quiet (i := 1) (v := ?va1) rfl rfl (by kernel_rfl) (by kernel_rfl) (by kernel_rfl) ?ya1 ?ra1
              case ya1 => (intro w hSw; (try dsimp only at hSw); go_simp; try with_reducible rfl)
              case ra1 =>
              try simp only [Act.put, List.setIfInBounds_toArray, List.set_cons_zero, List.set_cons_succ]
              refine Dt.quiet (i := 2) (v := ?va2) rfl rfl (by kernel_rfl) (by kernel_rfl) (by kernel_rfl) ?ya2 ?ra2
              case ya2 => (intro w hSw; (try dsimp only at hSw); go_simp; try with_reducible rfl)
              case ra2 =>
              try simp only [Act.put, List.setIfInBounds_toArray, List.set_cons_zero, List.set_cons_succ]
              refine Dt.act (i := 3) (v := ?va3) rfl rfl (by kernel_rfl) (by kernel_rfl) (by kernel_rfl) ?ya3 ?ra3
              case ya3 => (intro w K hSw hK; (try dsimp only at hSw); go_simp; refine Calls.mono (HC1.out _ hSw.1) ?_; rintro e w5 ⟨rfl, hb5⟩; refine ⟨_, rfl, hK.out _ _ ?_ (HKEEPa.out _ (below_to hSw.1 hb5))⟩; with_reducible rfl)
              case ra3 =>
              try simp only [Act.put, List.setIfInBounds_toArray, List.set_cons_zero, List.set_cons_succ]
              refine Dt.quiet (i := 4) (v := ?va4) rfl rfl (by kernel_rfl) (by kernel_rfl) (by kernel_rfl) ?ya4 ?ra4
              case ya4 => (intro w hSw; (try dsimp only at hSw); go_simp; try with_reducible rfl)
              case ra4 =>
              try simp only [Act.put, List.setIfInBounds_toArray, List.set_cons_zero, List.set_cons_succ]
              refine Dt.quiet (i := 5) (v := ?va5) rfl rfl (by kernel_rfl) (by kernel_rfl) (by kernel_rfl) ?ya5 ?ra5
              case ya5 => (intro w hSw; (try dsimp only at hSw); go_simp; try with_reducible rfl)
              case ra5 =>
              try simp only [Act.put, List.setIfInBounds_toArray, List.set_cons_zero, List.set_cons_succ]
              refine Dt.quiet (i := 6) (v := ?va6) rfl rfl (by kernel_rfl) (by kernel_rfl) (by kernel_rfl) ?ya6 ?ra6
              case ya6 => (intro w hSw; (try dsimp only at hSw); go_simp; try with_reducible rfl)
              case ra6 =>
              try simp only [Act.put, List.setIfInBounds_toArray, List.set_cons_zero, List.set_cons_succ]
              refine Dt.quiet (i := 7) (v := ?va7) rfl rfl (by kernel_rfl) (by kernel_rfl) (by kernel_rfl) ?ya7 ?ra7
              case ya7 => (intro w hSw; (try dsimp only at hSw); go_simp; try with_reducible rfl)
              case ra7 =>
              try simp only [Act.put, List.setIfInBounds_toArray, List.set_cons_zero, List.set_cons_succ]
              refine Dt.quiet (i := 8) (v := ?va8) rfl rfl (by kernel_rfl) (by kernel_rfl) (by kernel_rfl) ?ya8 ?ra8
              case ya8 => (intro w hSw; (try dsimp only at hSw); go_simp; try with_reducible rfl)
              case ra8 =>
              try simp only [Act.put, List.setIfInBounds_toArray, List.set_cons_zero, List.set_cons_succ]
              refine Dt.quiet (i := 9) (v := ?va9) rfl rfl (by kernel_rfl) (by kernel_rfl) (by kernel_rfl) ?ya9 ?ra9
              case ya9 => (intro w hSw; (try dsimp only at hSw); go_simp; try with_reducible rfl)
              case ra9 =>
              try simp only [Act.put, List.setIfInBounds_toArray, List.set_cons_zero, List.set_cons_succ]
              refine Dt.act (i := 10) (v := ?va10) rfl rfl (by kernel_rfl) (by kernel_rfl) (by kernel_rfl) ?ya10 ?ra10
              case ya10 => (intro w K hSw hK; (try dsimp only at hSw); go_simp; refine Calls.mono (HC2.out _ hSw.1) ?_; rintro e w5 ⟨rfl, hb5⟩; refine ⟨_, rfl, hK.out _ _ ?_ (HKEEPa.out _ (below_to hSw.1 hb5))⟩; with_reducible rfl)
              case ra10 =>
              try simp only [Act.put, List.setIfInBounds_toArray, List.set_cons_zero, List.set_cons_succ]
              refine Dt.quiet (i := 11) (v := ?va11) rfl rfl (by kernel_rfl) (by kernel_rfl) (by kernel_rfl) ?ya11 ?ra11
              case ya11 => (intro w hSw; (try dsimp only at hSw); go_simp; try with_reducible rfl)
              case ra11 =>
              try simp only [Act.put, List.setIfInBounds_toArray, List.set_cons_zero, List.set_cons_succ]
              refine Dt.quiet (i := 12) (v := ?va12) rfl rfl (by kernel_rfl) (by kernel_rfl) (by kernel_rfl) ?ya12 ?ra12
              case ya12 => (intro w hSw; (try dsimp only at hSw); go_simp; try with_reducible rfl)
              case ra12 =>
              try simp only [Act.put, List.setIfInBounds_toArray, List.set_cons_zero, List.set_cons_succ]
              refine Dt.quiet (i := 13) (v := ?va13) rfl rfl (by kernel_rfl) (by kernel_rfl) (by kernel_rfl) ?ya13 ?ra13
              case ya13 => (intro w hSw; (try dsimp only at hSw); go_simp; try with_reducible rfl)
              case ra13 =>
              try simp only [Act.put, List.setIfInBounds_toArray, List.set_cons_zero, List.set_cons_succ]
              refine Dt.done (by kernel_rfl) (by kernel_rfl) ?_
              intro wza hSza
              have HBZ := hid (below_to HBEL.out hSza.1)
              clear hSza
              go_wp2_with fail
              go_roundw
              case rel => exact ⟨j + 1, by omega, by go_num, by rw [HS2.out], HBZ.out⟩
              case measure => simp [intOf]; omega
            · have h0b : ((j : Int) == 0) = false := by simp; omega
              have hup2 : m3 < L := by omega
              clear hup hk0
              have HKEEPb := HKEEP0
              clear HKEEP0
              go_wp2_with fail
              refine Dt.start (n := 14) (by kernel_rfl) (by kernel_rfl) ?_
              refine Dt.enter (S := fun w' => Below wr.heap.size wr w' ∧ w'.cell? ⟨kg, 0, none⟩ = some (.int .i64 2) ∧ w'.cell? ⟨kg, 1, none⟩ = some (.int .i64 cn) ∧ w'.cell? ⟨kg, 2, none⟩ = some (.slice a la ca) ∧ w'.cell? ⟨kg, 3, none⟩ = some (.slice b lb cb)) (T := []) (m := 0) (n := 14) (by kernel_rfl) (by kernel_rfl) (by kernel_rfl) (by kernel_rfl) ?bS ?bD
              case bS => (first | exact HKEEPb.out _ (Below.refl _ _).drew | (fail))
              case bD =>
              refine Dt.quiet (i := 0) (v := ?vb0) rfl rfl (by kernel_rfl) (by kernel_rfl) (by kernel_rfl) ?yb0 ?rb0
              case yb0 => (intro w hSw; (try dsimp only at hSw); go_simp; try with_reducible rfl)
              case rb0 =>
              try simp only [Act.put, List.setIfInBounds_toArray, List.set_cons_zero, List.set_cons_succ]
              refine Dt.quiet (i := 1) (v := ?vb1) rfl rfl (by kernel_rfl) (by kernel_rfl) (by kernel_rfl) ?yb1 ?rb1
              case yb1 => (intro w hSw; (try dsimp only at hSw); go_simp; try with_reducible rfl)
              case rb1 =>
              try simp only [Act.put, List.setIfInBounds_toArray, List.set_cons_zero, List.set_cons_succ]
              refine Dt.quiet (i := 2) (v := ?vb2) rfl rfl (by kernel_rfl) (by kernel_rfl) (by kernel_rfl) ?yb2 ?rb2
              case yb2 => (intro w hSw; (try dsimp only at hSw); go_simp; try with_reducible rfl)
              case rb2 =>
              try simp only [Act.put, List.setIfInBounds_toArray, List.set_cons_zero, List.set_cons_succ]
              refine Dt.act (i := 3) (v := ?vb3) rfl rfl (by kernel_rfl) (by kernel_rfl) (by kernel_rfl) ?yb3 ?rb3
              case yb3 => (intro w K hSw hK; (try dsimp only at hSw); go_simp; refine Calls.mono (HC1.out _ hSw.1) ?_; rintro e w5 ⟨rfl, hb5⟩; refine ⟨_, rfl, hK.out _ _ ?_ (HKEEPb.out _ (below_to hSw.1 hb5))⟩; with_reducible rfl)
              case rb3 =>
              try simp only [Act.put, List.setIfInBounds_toArray, List.set_cons_zero, List.set_cons_succ]
              refine Dt.quiet (i := 4) (v := ?vb4) rfl rfl (by kernel_rfl) (by kernel_rfl) (by kernel_rfl) ?yb4 ?rb4
              case yb4 => (intro w hSw; (try dsimp only at hSw); go_simp; try with_reducible rfl)
              case rb4 =>
              try simp only [Act.put, List.setIfInBounds_toArray, List.set_cons_zero, List.set_cons_succ]
              refine Dt.quiet (i := 5) (v := ?vb5) rfl rfl (by kernel_rfl) (by kernel_rfl) (by kernel_rfl) ?yb5 ?rb5
              case yb5 => (intro w hSw; (try dsimp only at hSw); go_simp; try with_reducible rfl)
              case rb5 =>
              try simp only [Act.put, List.setIfInBounds_toArray, List.set_cons_zero, List.set_cons_succ]
              refine Dt.quiet (i := 6) (v := ?vb6) rfl rfl (by kernel_rfl) (by kernel_rfl) (by kernel_rfl) ?yb6 ?rb6
              case yb6 => (intro w hSw; (try dsimp only at hSw); go_simp; try with_reducible rfl)
              case rb6 =>
              try simp only [Act.put, List.setIfInBounds_toArray, List.set_cons_zero, List.set_cons_succ]
              refine Dt.quiet (i := 7) (v := ?vb7) rfl rfl (by kernel_rfl) (by kernel_rfl) (by kernel_rfl) ?yb7 ?rb7
              case yb7 => (intro w hSw; (try dsimp only at hSw); go_simp; try with_reducible rfl)
              case rb7 =>
              try simp only [Act.put, List.setIfInBounds_toArray, List.set_cons_zero, List.set_cons_succ]
              refine Dt.quiet (i := 8) (v := ?vb8) rfl rfl (by kernel_rfl) (by kernel_rfl) (by kernel_rfl) ?yb8 ?rb8
              case yb8 => (intro w hSw; (try dsimp only at hSw); go_simp; try with_reducible rfl)
              case rb8 =>
              try simp only [Act.put, List.setIfInBounds_toArray, List.set_cons_zero, List.set_cons_succ]
              refine Dt.quiet (i := 9) (v := ?vb9) rfl rfl (by kernel_rfl) (by kernel_rfl) (by kernel_rfl) ?yb9 ?rb9
              case yb9 => (intro w hSw; (try dsimp only at hSw); go_simp; try with_reducible rfl)
              case rb9 =>
              try simp only [Act.put, List.setIfInBounds_toArray, List.set_cons_zero, List.set_cons_succ]
              refine Dt.act (i := 10) (v := ?vb10) rfl rfl (by kernel_rfl) (by kernel_rfl) (by kernel_rfl) ?yb10 ?rb10
              case yb10 => (intro w K hSw hK; (try dsimp only at hSw); go_simp; refine Calls.mono (HC2.out _ hSw.1) ?_; rintro e w5 ⟨rfl, hb5⟩; refine ⟨_, rfl, hK.out _ _ ?_ (HKEEPb.out _ (below_to hSw.1 hb5))⟩; with_reducible rfl)
              case rb10 =>
              try simp only [Act.put, List.setIfInBounds_toArray, List.set_cons_zero, List.set_cons_succ]
              refine Dt.quiet (i := 11) (v := ?vb11) rfl rfl (by kernel_rfl) (by kernel_rfl) (by kernel_rfl) ?yb11 ?rb11
              case yb11 => (intro w hSw; (try dsimp only at hSw); go_simp; try with_reducible rfl)
              case rb11 =>
              try simp only [Act.put, List.setIfInBounds_toArray, List.set_cons_zero, List.set_cons_succ]
              refine Dt.quiet (i := 12) (v := ?vb12) rfl rfl (by kernel_rfl) (by kernel_rfl) (by kernel_rfl) ?yb12 ?rb12
              case yb12 => (intro w hSw; (try dsimp only at hSw); go_simp; try with_reducible rfl)
              case rb12 =>
              try simp only [Act.put, List.setIfInBounds_toArray, List.set_cons_zero, List.set_cons_succ]
              refine Dt.quiet (i := 13) (v := ?vb13) rfl rfl (by kernel_rfl) (by kernel_rfl) (by kernel_rfl) ?yb13 ?rb13
              case yb13 => (intro w hSw; (try dsimp only at hSw); go_simp; try with_reducible rfl)
              case rb13 =>
              try simp only [Act.put, List.setIfInBounds_toArray, List.set_cons_zero, List.set_cons_succ]
              refine Dt.done (by kernel_rfl) (by kernel_rfl) ?_
              intro wzb hSzb
              have HBZ := hid (below_to HBEL.out hSzb.1)
              clear hSzb
              go_wp2_with fail
              go_roundw
              case rel => exact ⟨j + 1, by omega, by go_num, by rw [HS2.out], HBZ.out⟩
              case measure => simp [intOf]; omega
          · have HS2 : Hid (lowV f (j + 1) = L) := hid (by rw [lowV, HV2.out, HL.out, if_neg hup])
            have h0b : ((j : Int) == 0) = false := by simp; omega
            have hup2 : ¬ m3 < L := by omega
            clear hup
            have HKEEPc := HKEEP0
            clear HKEEP0
            go_wp2_with fail
            refine Dt.start (n := 14) (by kernel_rfl) (by kernel_rfl) ?_
            refine Dt.enter (S := fun w' => Below wr.heap.size wr w' ∧ w'.cell? ⟨kg, 0, none⟩ = some (.int .i64 2) ∧ w'.cell? ⟨kg, 1, none⟩ = some (.int .i64 cn) ∧ w'.cell? ⟨kg, 2, none⟩ = some (.slice a la ca) ∧ w'.cell? ⟨kg, 3, none⟩ = some (.slice b lb cb)) (T := []) (m := 0) (n := 14) (by kernel_rfl) (by kernel_rfl) (by kernel_rfl) (by kernel_rfl) ?cS ?cD
            case cS => (first | exact HKEEPc.out _ (Below.refl _ _).drew | (fail))
            case cD =>
            refine Dt.quiet (i := 0) (v := ?vc0) rfl rfl (by kernel_rfl) (by kernel_rfl) (by kernel_rfl) ?yc0 ?rc0
            case yc0 => (intro w hSw; (try dsimp only at hSw); go_simp; try with_reducible rfl)
            case rc0 =>
            try simp only [Act.put, List.setIfInBounds_toArray, List.set_cons_zero, List.set_cons_succ]
            refine Dt.quiet (i := 1) (v := ?vc1) rfl rfl (by kernel_rfl) (by kernel_rfl) (by kernel_rfl) ?yc1 ?rc1
            case yc1 => (intro w hSw; (try dsimp only at hSw); go_simp; try with_reducible rfl)
            case rc1 =>
            try simp only [Act.put, List.setIfInBounds_toArray, List.set_cons_zero, List.set_cons_succ]
            refine Dt.quiet (i := 2) (v := ?vc2) rfl rfl (by kernel_rfl) (by kernel_rfl) (by kernel_rfl) ?yc2 ?rc2
            case yc2 => (intro w hSw; (try dsimp only at hSw); go_simp; try with_reducible rfl)
            case rc2 =>
            try simp only [Act.put, List.setIfInBounds_toArray, List.set_cons_zero, List.set_cons_succ]
            refine Dt.act (i := 3) (v := ?vc3) rfl rfl (by kernel_rfl) (by kernel_rfl) (by kernel_rfl) ?yc3 ?rc3
            case yc3 => (intro w K hSw hK; (try dsimp only at hSw); go_simp; refine Calls.mono (HC1.out _ hSw.1) ?_; rintro e w5 ⟨rfl, hb5⟩; refine ⟨_, rfl, hK.out _ _ ?_ (HKEEPc.out _ (below_to hSw.1 hb5))⟩; with_reducible rfl)
            case rc3 =>
            try simp only [Act.put, List.setIfInBounds_toArray, List.set_cons_zero, List.set_cons_succ]
            refine Dt.quiet (i := 4) (v := ?vc4) rfl rfl (by kernel_rfl) (by kernel_rfl) (by kernel_rfl) ?yc4 ?rc4
            case yc4 => (intro w hSw; (try dsimp only at hSw); go_simp; try with_reducible rfl)
            case rc4 =>
            try simp only [Act.put, List.setIfInBounds_toArray, List.set_cons_zero, List.set_cons_succ]
            refine Dt.quiet (i := 5) (v := ?vc5) rfl rfl (by kernel_rfl) (by kernel_rfl) (by kernel_rfl) ?yc5 ?rc5
            case yc5 => (intro w hSw; (try dsimp only at hSw); go_simp; try with_reducible rfl)
            case rc5 =>
            try simp only [Act.put, List.setIfInBounds_toArray, List.set_cons_zero, List.set_cons_succ]
            refine Dt.quiet (i := 6) (v := ?vc6) rfl rfl (by kernel_rfl) (by kernel_rfl) (by kernel_rfl) ?yc6 ?rc6
            case yc6 => (intro w hSw; (try dsimp only at hSw); go_simp; try with_reducible rfl)
            case rc6 =>
            try simp only [Act.put, List.setIfInBounds_toArray, List.set_cons_zero, List.set_cons_succ]
            refine Dt.quiet (i := 7) (v := ?vc7) rfl rfl (by kernel_rfl) (by kernel_rfl) (by kernel_rfl) ?yc7 ?rc7
            case yc7 => (intro w hSw; (try dsimp only at hSw); go_simp; try with_reducible rfl)
            case rc7 =>
            try simp only [Act.put, List.setIfInBounds_toArray, List.set_cons_zero, List.set_cons_succ]
            refine Dt.quiet (i := 8) (v := ?vc8) rfl rfl (by kernel_rfl) (by kernel_rfl) (by kernel_rfl) ?yc8 ?rc8
            case yc8 => (intro w hSw; (try dsimp only at hSw); go_simp; try with_reducible rfl)
            case rc8 =>
            try simp only [Act.put, List.setIfInBounds_toArray, List.set_cons_zero, List.set_cons_succ]
            refine Dt.quiet (i := 9) (v := ?vc9) rfl rfl (by kernel_rfl) (by kernel_rfl) (by kernel_rfl) ?yc9 ?rc9
            case yc9 => (intro w hSw; (try dsimp only at hSw); go_simp; try with_reducible rfl)
            case rc9 =>
            try simp only [Act.put, List.setIfInBounds_toArray, List.set_cons_zero, List.set_cons_succ]
            refine Dt.act (i := 10) (v := ?vc10) rfl rfl (by kernel_rfl) (by kernel_rfl) (by kernel_rfl) ?yc10 ?rc10
            case yc10 => (intro w K hSw hK; (try dsimp only at hSw); go_simp; refine Calls.mono (HC2.out _ hSw.1) ?_; rintro e w5 ⟨rfl, hb5⟩; refine ⟨_, rfl, hK.out _ _ ?_ (HKEEPc.out _ (below_to hSw.1 hb5))⟩; with_reducible rfl)
            case rc10 =>
            try simp only [Act.put, List.setIfInBounds_toArray, List.set_cons_zero, List.set_cons_succ]
            refine Dt.quiet (i := 11) (v := ?vc11) rfl rfl (by kernel_rfl) (by kernel_rfl) (by kernel_rfl) ?yc11 ?rc11
            case yc11 => (intro w hSw; (try dsimp only at hSw); go_simp; try with_reducible rfl)
            case rc11 =>
            try simp only [Act.put, List.setIfInBounds_toArray, List.set_cons_zero, List.set_cons_succ]
            refine Dt.quiet (i := 12) (v := ?vc12) rfl rfl (by kernel_rfl) (by kernel_rfl) (by kernel_rfl) ?yc12 ?rc12
            case yc12 => (intro w hSw; (try dsimp only at hSw); go_simp; try with_reducible rfl)
            case rc12 =>
            try simp only [Act.put, List.setIfInBounds_toArray, List.set_cons_zero, List.set_cons_succ]
            refine Dt.quiet (i := 13) (v := ?vc13) rfl rfl (by kernel_rfl) (by kernel_rfl) (by kernel_rfl) ?yc13 ?rc13
            case yc13 => (intro w hSw; (try dsimp only at hSw); go_simp; try with_reducible rfl)
            case rc13 =>
            try simp only [Act.put, List.setIfInBounds_toArray, List.set_cons_zero, List.set_cons_succ]
            refine Dt.done (by kernel_rfl) (by kernel_rfl) ?_
            intro wzc hSzc
            have HBZ := hid (below_to HBEL.out hSzc.1)
            clear hSzc
            go_wp2_with fail
            go_roundw
            case rel => exact ⟨j + 1, by omega, by go_num, by rw [HS2.out], HBZ.out⟩
            case measure => simp [intOf]; omega
        · obtain rfl : j = cn := by omega
          have HBW := hid (below_to HBA.out HBEL.out)
          have HVR := hid (HV.out.below HBW.out)
          have hlb := HLB.out j (Nat.le_refl _)
          rw [HL.out] at hlb
          rw [HL.out] at HLV
          obtain ⟨hL1, hL2⟩ := hlb
          have v0 := (HVR.out.1.2 0 _ rfl).1
          have v1 := (HVR.out.2.1.2 0 _ rfl).1
          have v2 := (HVR.out.2.2.1.2 0 _ rfl).1
          have v3 := (HVR.out.2.2.2.2 0 _ rfl).1
          have z0 := (HVR.out.1.2 0 _ rfl).2
          have z1 := (HVR.out.2.1.2 0 _ rfl).2
          have z2 := (HVR.out.2.2.1.2 0 _ rfl).2
          have z3 := (HVR.out.2.2.2.2 0 _ rfl).2
          have HR2 := hid (fun w' => reduced L r2 w' (by omega) (by omega) (by omega) (by omega) (by omega))
          have HRE : Hid (red L r2 = ((red L r2).1, (red L r2).2)) := hid rfl
          obtain ⟨e1, he1⟩ : ∃ e, (red L r2).1 = e := ⟨_, rfl⟩
          obtain ⟨e2, he2⟩ : ∃ e, (red L r2).2 = e := ⟨_, rfl⟩
          rw [he1, he2] at HR2 HRE
          clear he1 he2 f0 f1 f2 f3
          have HTK : Hid ((q = 0 ∨ Better (worstV xs j) (r1, r2) (p, q)) → ∀ W, Mid k (k + 4) w W → Vars W k r1 r2 e1 e2 → TryPost (worstV xs j) (p, q) n d k w (.returned (.tuple #[])) W) := hid (fun hup W hm hvv => by
            refine ⟨rfl, e1, e2, ?_, ?_, hm⟩ <;> rw [HTF.out, if_pos hup]
            · exact .inr ⟨hi0, hi1, hr20, hr24, by rw [HLV.out]; exact HRE.out.symm⟩
            · exact hvv)
          have HNT : Hid (¬ (q = 0 ∨ Better (worstV xs j) (r1, r2) (p, q)) → TryPost (worstV xs j) (p, q) n d k w (.returned (.tuple #[])) wr) := hid (fun hup => by
            refine ⟨rfl, v, u, ?_, ?_, Mid.of_below HBW.out⟩ <;> rw [HTF.out, if_neg hup]
            · exact HST.out
            · exact HVR.out)
          have HMW := hid (Mid.of_below (lo := k) (hi := k + 4) HBW.out)
          have b0 := hid HVR.out.1
          have b1 := hid HVR.out.2.1
          have b2 := hid HVR.out.2.2.1
          have b3 := hid HVR.out.2.2.2
          rcases HST.out with ⟨rfl, rfl, rfl, rfl⟩ | ⟨s1, s2, s3, s4, s5⟩
          · have w0 : IntKind.i64.wrap 0 = 0 := IntWalk.i64_in _ (by omega)
            clear HST
            go_wp2_with (go_at_call 116; refine (HR2.out _).mono ?_; rintro e w5 ⟨rfl, n5, rfl⟩)
            go_end0
            refine HTK.out (by simp) _ ?_ ⟨?_, ?_, ?_, ?_⟩
            · repeat (first | with_reducible exact HMW.out | (with_reducible refine Mid.trans ?_ (Mid.setCell _ _ (by simp) (by simp))) | (with_reducible refine Mid.trans ?_ (Mid.of_below (below_drewN (Below.refl _ _) _))))
            · repeat (first | with_reducible exact b0.out | (with_reducible refine Box.setS (x := .int .i64 0) ?_) | (with_reducible refine Box.dr ?_ _) | ((with_reducible refine Box.setO ?_ ?_); rotate_left; (· simp)))
            · repeat (first | with_reducible exact b1.out | (with_reducible refine Box.setS (x := .int .i64 0) ?_) | (with_reducible refine Box.dr ?_ _) | ((with_reducible refine Box.setO ?_ ?_); rotate_left; (· simp)))
            · repeat (first | with_reducible exact b2.out | (with_reducible refine Box.setS (x := .int .i64 0) ?_) | (with_reducible refine Box.dr ?_ _) | ((with_reducible refine Box.setO ?_ ?_); rotate_left; (· simp)))
            · repeat (first | with_reducible exact b3.out | (with_reducible refine Box.setS (x := .int .i64 0) ?_) | (with_reducible refine Box.dr ?_ _) | ((with_reducible refine Box.setO ?_ ?_); rotate_left; (· simp)))
          · obtain ⟨k1, k2⟩ := cmp_red (x := L) (b := r2) s3 s5
            have HBT : Hid (Better (worstV xs j) (r1, r2) (p, q) ↔ 0 < L * u - v * r2 ∨ (L * u - v * r2 = 0 ∧ r1 * q < p * r2)) := hid (by
              rw [k1, k2, Better, HLV.out])
            have hq0 : (q == 0) = false := by simp; omega
            have HQ0 : Hid (¬ q = 0) := hid (by omega)
            obtain ⟨m1, hm1⟩ : ∃ m, L * u = m := ⟨_, rfl⟩
            obtain ⟨m2, hm2⟩ : ∃ m, v * r2 = m := ⟨_, rfl⟩
            obtain ⟨m3, hm3⟩ : ∃ m, m1 - m2 = m := ⟨_, rfl⟩
            obtain ⟨m4, hm4⟩ : ∃ m, r1 * q = m := ⟨_, rfl⟩
            obtain ⟨m5, hm5⟩ : ∃ m, p * r2 = m := ⟨_, rfl⟩
            have g1 := mul_bd (a := L) (b := u) (A := 8000000) (B := 4000) hL1 hL2 hu1 hu2
            have g2 := mul_bd (a := v) (b := r2) (A := 8000000) (B := 4000) hv1 hv2 (by omega) hr24
            have g3 := mul_bd (a := r1) (b := q) (A := 4000) (B := 4000) (by omega) hr14 (by omega) hq2
            have g4 := mul_bd (a := p) (b := r2) (A := 4000) (B := 4000) (by omega) hp2 (by omega) hr24
            rw [hm1] at g1
            rw [hm2] at g2
            rw [hm4] at g3
            rw [hm5] at g4
            rw [hm1, hm2, hm3, hm4, hm5] at HBT
            have t1 : IntKind.i64.wrap m1 = m1 := IntWalk.i64_in _ (by omega)
            have t2 : IntKind.i64.wrap m2 = m2 := IntWalk.i64_in _ (by omega)
            have t3 : IntKind.i64.wrap m3 = m3 := IntWalk.i64_in _ (by omega)
            have t4 : IntKind.i64.wrap m4 = m4 := IntWalk.i64_in _ (by omega)
            have t5 : IntKind.i64.wrap m5 = m5 := IntWalk.i64_in _ (by omega)
            clear HST k1 k2 s1 s2 s3 s4 s5 g1 g2 g3 g4
            by_cases c1 : 0 < m3
            · have HUP := hid (HBT.out.mpr (.inl c1))
              clear HBT
              go_wp2_with (go_at_call 116; refine (HR2.out _).mono ?_; rintro e w5 ⟨rfl, n5, rfl⟩)
              go_end0
              refine HTK.out (.inr HUP.out) _ ?_ ⟨?_, ?_, ?_, ?_⟩
              · repeat (first | with_reducible exact HMW.out | (with_reducible refine Mid.trans ?_ (Mid.setCell _ _ (by simp) (by simp))) | (with_reducible refine Mid.trans ?_ (Mid.of_below (below_drewN (Below.refl _ _) _))))
              · repeat (first | with_reducible exact b0.out | (with_reducible refine Box.setS (x := .int .i64 p) ?_) | (with_reducible refine Box.dr ?_ _) | ((with_reducible refine Box.setO ?_ ?_); rotate_left; (· simp)))
              · repeat (first | with_reducible exact b1.out | (with_reducible refine Box.setS (x := .int .i64 q) ?_) | (with_reducible refine Box.dr ?_ _) | ((with_reducible refine Box.setO ?_ ?_); rotate_left; (· simp)))
              · repeat (first | with_reducible exact b2.out | (with_reducible refine Box.setS (x := .int .i64 v) ?_) | (with_reducible refine Box.dr ?_ _) | ((with_reducible refine Box.setO ?_ ?_); rotate_left; (· simp)))
              · repeat (first | with_reducible exact b3.out | (with_reducible refine Box.setS (x := .int .i64 u) ?_) | (with_reducible refine Box.dr ?_ _) | ((with_reducible refine Box.setO ?_ ?_); rotate_left; (· simp)))
            · by_cases c2 : m3 = 0
              · have c2b : (m3 == 0) = true := by simpa using c2
                by_cases c3 : m4 < m5
                · have HUP := hid (HBT.out.mpr (.inr ⟨c2, c3⟩))
                  clear HBT c2
                  go_wp2_with (go_at_call 116; refine (HR2.out _).mono ?_; rintro e w5 ⟨rfl, n5, rfl⟩)
                  go_end0
                  refine HTK.out (.inr HUP.out) _ ?_ ⟨?_, ?_, ?_, ?_⟩
                  · repeat (first | with_reducible exact HMW.out | (with_reducible refine Mid.trans ?_ (Mid.setCell _ _ (by simp) (by simp))) | (with_reducible refine Mid.trans ?_ (Mid.of_below (below_drewN (Below.refl _ _) _))))
                  · repeat (first | with_reducible exact b0.out | (with_reducible refine Box.setS (x := .int .i64 p) ?_) | (with_reducible refine Box.dr ?_ _) | ((with_reducible refine Box.setO ?_ ?_); rotate_left; (· simp)))
                  · repeat (first | with_reducible exact b1.out | (with_reducible refine Box.setS (x := .int .i64 q) ?_) | (with_reducible refine Box.dr ?_ _) | ((with_reducible refine Box.setO ?_ ?_); rotate_left; (· simp)))
                  · repeat (first | with_reducible exact b2.out | (with_reducible refine Box.setS (x := .int .i64 v) ?_) | (with_reducible refine Box.dr ?_ _) | ((with_reducible refine Box.setO ?_ ?_); rotate_left; (· simp)))
                  · repeat (first | with_reducible exact b3.out | (with_reducible refine Box.setS (x := .int .i64 u) ?_) | (with_reducible refine Box.dr ?_ _) | ((with_reducible refine Box.setO ?_ ?_); rotate_left; (· simp)))
                · have HUP := hid (fun h => (HBT.out.mp h).elim c1 (fun h => c3 h.2))
                  clear HBT c2
                  go_wp2_with fail
                  go_end0
                  exact HNT.out (fun h => h.elim HQ0.out HUP.out)
              · have c2b : (m3 == 0) = false := by simpa using c2
                have HUP := hid (fun h => (HBT.out.mp h).elim c1 (fun h => c2 h.1))
                clear HBT c2
                go_wp2_with fail
                go_end0
                exact HNT.out (fun h => h.elim HQ0.out HUP.out)
    · have hiB : inB 0 r2 r1 = false := by unfold inB; exact decide_eq_false hin
      rw [hiB] at HW
      have HT : Hid (tryF (worstV xs cn) (p, q) n d = (p, q)) := hid (tryF_no _ _ _ _ (fun h => hin (by rw [hr1, hr2] at h; exact h.2)))
      clear hst hvs hbox h hT hiB hr1 hr2 hrr hin hd0 hle
      go_enter Try.func115, Try.ntmps115
      go_wp2_with fail
      refine (HR.out _).mono ?_
      rintro e wa ⟨rfl, n0, hwa⟩
      have HBA : Hid (Below w.heap.size w wa) := hid (by rw [hwa]; exact below_drewN (Below.refl _ _) n0)
      clear hwa
      go_wp2_with (go_at_call 117; refine (HW.out _).mono ?_; rintro e w1 ⟨rfl, rfl⟩)
      go_end0
      refine ⟨rfl, v, u, ?_, ?_, Mid.of_below HBA.out⟩ <;> rw [HT.out]
      · exact HST.out
      · exact HV.out.below HBA.out
end TryWalk
end Go.Proofs.Ytlbmmecjiopbbaa
