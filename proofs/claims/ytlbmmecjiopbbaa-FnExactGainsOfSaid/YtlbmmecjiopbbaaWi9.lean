/- Games: the potential: the program's side. No condition. -/
import Derived.Test.YtlbmmecjiopbbaaWi8
namespace Go.Proofs.Ytlbmmecjiopbbaa
open Go.RowKit Flo Sl Pg
set_option linter.unusedVariables false
set_option linter.unusedSimpArgs false
attribute [local go_sem ↓] Go.wp_at_zero Go.wp_at_succ
attribute [local go_sem] Dt.uponV_value Dt.uponV_skip Dt.uponV_enter
namespace TryWalk
set_option maxHeartbeats 1000000 in
theorem gB (rn cn : Nat) (a : Option Addr) (la ca : Nat) (b : Option Addr) (lb cb : Nat) (ys : List Int) (i k : Nat) (w : World) (hr2 : rn ≤ 6) (hc2 : cn ≤ 6) (hlb : lb = rn * cn) (h : SlV (Value.int .i64) w b lb ys) (hi : i < rn) (hk : k < cn) : Calls Try.prog 99 #[.agg #[.int .i64 rn, .int .i64 cn, .slice a la ca, .slice b lb cb], .int .i64 i, .int .i64 k] w fun e w' => e = .returned (.int .i64 (at2 ys cn i k)) ∧ Below w.heap.size w w' := by
  have bw : Below w.heap.size w (w.alloc (.cells #[.int .i64 rn, .int .i64 cn, .slice a la ca, .slice b lb cb] 44)) := Below.alloc (Below.refl _ _) (Nat.le_refl _) _
  have hl36 : lb ≤ 36 := by rw [hlb]; exact mul36 hr2 hc2
  have hix := idx_lt hi hk
  rw [← hlb] at hix
  obtain ⟨b1, off, rfl, hb1, hc⟩ := h.2 (by omega)
  obtain ⟨z, hz⟩ : ∃ z, i * cn = z := ⟨_, rfl⟩
  obtain ⟨s, hs⟩ : ∃ s, z + k = s := ⟨_, rfl⟩
  have hs1 : s < lb := by omega
  have hd1 : (w.alloc (.cells #[.int .i64 rn, .int .i64 cn, .slice a la ca, .slice (some ⟨b1, off, none⟩) lb cb] 44)).cell? ⟨b1, off + s, none⟩ = some (.int .i64 (ys.getD s 0)) := by
    rw [bw.cell (p := ⟨b1, off + s, none⟩) hb1]; exact hc s hs1
  have hv : at2 ys cn i k = ys.getD s 0 := by rw [at2, hz, hs]
  rw [hv]
  generalize ys.getD s 0 = v at *
  have hzi : (i : Int) * (cn : Int) = (z : Int) := by rw [← hz]; push_cast; rfl
  have hsi : (z : Int) + (k : Int) = (s : Int) := by rw [← hs]; push_cast; rfl
  have hz36 : z ≤ 36 := by omega
  have hzw : IntKind.i64.wrap (z : Int) = (z : Int) := IntWalk.i64_in _ (by omega)
  have hsw : IntKind.i64.wrap (s : Int) = (s : Int) := IntWalk.i64_in _ (by omega)
  have hi2 : (0 : Int) ≤ (s : Int) := by omega
  have hi3 : (s : Int) < (lb : Int) := by omega
  clear hc hz hs hv hix hlb
  go_enter Try.func99, Try.ntmps99
  go_wp2_with fail
  go_ret
  exact ⟨rfl, bw⟩
theorem potI_bd {xs ys : List Int} {la lb c i k n : Nat} (hx : ∀ i, i < la → -1000 ≤ xs.getD i 0 ∧ xs.getD i 0 ≤ 1000) (hy : ∀ i, i < lb → -1000 ≤ ys.getD i 0 ∧ ys.getD i 0 ≤ 1000) (hla : la = n * c) (hlb : lb = n * c) (hi : i < n) (hk : k < c) : -4000 ≤ potI xs ys c i k ∧ potI xs ys c i k ≤ 4000 := by
  have h1 := idx_lt hi hk
  have h2 := idx_lt (show 0 < n by omega) hk
  have h3 := idx_lt (show 0 < n by omega) (show 0 < c by omega)
  have q1 := hx _ (show i * c + k < la by omega)
  have q2 := hx _ (show 0 * c + k < la by omega)
  have q3 := hy _ (show 0 * c + k < lb by omega)
  have q4 := hy _ (show 0 * c + 0 < lb by omega)
  unfold potI at2
  omega
/-- What the program's two methods give, wherever memory has grown. -/
theorem gAz (rn cn : Nat) (a : Option Addr) (la ca : Nat) (xs : List Int) (b : Option Addr) (lb cb : Nat) (i k : Nat) (ii kk : Int) (w : World) (hii : ii = i) (hkk : kk = k) (hr2 : rn ≤ 6) (hc2 : cn ≤ 6) (hla : la = rn * cn) (h : SlV (Value.int .i64) w a la xs) (hi : i < rn) (hk : k < cn) : Calls Try.prog 92 #[.agg #[.int .i64 rn, .int .i64 cn, .slice a la ca, .slice b lb cb], .int .i64 ii, .int .i64 kk] w fun e w' => e = .returned (.int .i64 (at2 xs cn i k)) ∧ Below w.heap.size w w' := by
  subst hii hkk
  exact gA rn cn a la ca xs b lb cb i k w hr2 hc2 hla h hi hk
theorem gBz (rn cn : Nat) (a : Option Addr) (la ca : Nat) (b : Option Addr) (lb cb : Nat) (ys : List Int) (i k : Nat) (ii kk : Int) (w : World) (hii : ii = i) (hkk : kk = k) (hr2 : rn ≤ 6) (hc2 : cn ≤ 6) (hlb : lb = rn * cn) (h : SlV (Value.int .i64) w b lb ys) (hi : i < rn) (hk : k < cn) : Calls Try.prog 99 #[.agg #[.int .i64 rn, .int .i64 cn, .slice a la ca, .slice b lb cb], .int .i64 ii, .int .i64 kk] w fun e w' => e = .returned (.int .i64 (at2 ys cn i k)) ∧ Below w.heap.size w w' := by
  subst hii hkk
  exact gB rn cn a la ca b lb cb ys i k w hr2 hc2 hlb h hi hk
set_option maxRecDepth 100000 in
set_option maxHeartbeats 8000000 in
theorem imPot (r c : Int) (a : Option Addr) (la ca : Nat) (xs : List Int) (b : Option Addr) (lb cb : Nat) (ys : List Int) (w : World) (h : SlV (Value.int .i64) w a la xs) (g : SlV (Value.int .i64) w b lb ys) (hla : la ≤ 1048576) (hlb : lb ≤ 1048576) : Calls Try.prog 57 #[.agg #[.int .i64 r, .int .i64 c, .slice a la ca, .slice b lb cb]] w (RetL (potFF r c xs ys) (potFF r c xs ys).length (potD r c xs ys) w) := by
  have bw : Below w.heap.size w (w.alloc (.cells #[.int .i64 r, .int .i64 c, .slice a la ca, .slice b lb cb] 44)) := Below.alloc (Below.refl _ _) (Nat.le_refl _) _
  have hbox : Box (w.alloc (.cells #[.int .i64 r, .int .i64 c, .slice a la ca, .slice b lb cb] 44)) w.heap.size [.int .i64 r, .int .i64 c, .slice a la ca, .slice b lb cb] := Box.new _ _ _
  have HIS := hid (imValidG r c a la ca xs b lb cb ys _ (h.below bw) (g.below bw) hla hlb)
  cases hv : validG r c xs ys with
  | false =>
    have e2 : potD r c xs ys = false := by simp [potD, hv]
    have e1 : potFF r c xs ys = [] := by simp [potFF, e2]
    rw [e1, e2]
    rw [hv] at HIS
    go_enter Try.func57, Try.ntmps57
    go_wp2_with fail
    refine HIS.out.mono ?_
    rintro e w1 ⟨rfl, b1⟩
    have bw1 := below_to bw b1
    go_wp2_with fail
    go_ret2
    exact retL_none _ _ bw1
  | true =>
    rw [hv] at HIS
    obtain ⟨rn, cn, rfl, rfl, hr1, hr2, hc1, hc2, h5, h7, h6, h8⟩ := validG_parts hv
    have HLA : Hid (la = rn * cn) := hid (by rw [← h.1]; exact h5)
    have HLB : Hid (lb = rn * cn) := hid (by rw [← g.1]; exact h7)
    have hl36 : la ≤ 36 := by rw [HLA.out]; exact mul36 hr2 hc2
    have hlb36 : lb ≤ 36 := by rw [HLB.out]; exact mul36 hr2 hc2
    have hl0 : 0 < la := by rw [HLA.out]; exact Nat.mul_pos hr1 hc1
    have hlb0 : 0 < lb := by rw [HLB.out]; exact Nat.mul_pos hr1 hc1
    have HX6 := hid (show ∀ i, i < la → -1000 ≤ xs.getD i 0 ∧ xs.getD i 0 ≤ 1000 from fun i hi => at_in h6 (by rw [h.1]; exact hi))
    have HY6 := hid (show ∀ i, i < lb → -1000 ≤ ys.getD i 0 ∧ ys.getD i 0 ≤ 1000 from fun i hi => at_in h8 (by rw [g.1]; exact hi))
    have e2 : potD rn cn xs ys = okTab xs ys cn rn := by rw [potD, hv]; rfl
    have e1 : potFF rn cn xs ys = if okTab xs ys cn rn then tabOf (potI xs ys cn) cn rn else [] := by rw [potFF, e2]; rfl
    obtain ⟨F, hF⟩ : ∃ F, potFF rn cn xs ys = F := ⟨_, rfl⟩
    obtain ⟨D, hD⟩ : ∃ D, potD rn cn xs ys = D := ⟨_, rfl⟩
    have HF : Hid (F = if okTab xs ys cn rn then tabOf (potI xs ys cn) cn rn else []) := hid (by rw [← hF]; exact e1)
    have HD : Hid (D = okTab xs ys cn rn) := hid (by rw [← hD]; exact e2)
    rw [hF, hD]
    clear hF hD
    have HX := hid hbox
    have HH := hid (h.below bw)
    have HG := hid (g.below bw)
    have HB := hid bw
    clear hv h5 h6 h7 h8 e1 e2 hbox h g bw hla hlb
    obtain ⟨S, hS⟩ : ∃ S, potI xs ys cn = S := ⟨_, rfl⟩
    have HS := hid hS
    clear hS
    go_enter Try.func57, Try.ntmps57
    go_wp2_with fail
    refine HIS.out.mono ?_
    rintro e wq ⟨rfl, bq⟩
    have HX2 : Hid (Box wq w.heap.size [.int .i64 rn, .int .i64 cn, .slice a la ca, .slice b lb cb]) := hid (HX.out.below bq)
    have HB2 : Hid (Below w.heap.size w wq) := hid (below_to HB.out bq)
    have HA2 : Hid (SlV (Value.int .i64) wq a la xs) := hid (HH.out.below bq)
    have HG2 : Hid (SlV (Value.int .i64) wq b lb ys) := hid (HG.out.below bq)
    clear bq
    have f0 := ((HX2.out.al (.cells #[] 2)).2 0 _ rfl).1
    go_wp2_with fail
    clear f0
    go_loopw [4, 5, 6, 15] (fun v x y i wr => ∃ j z : Nat, j ≤ rn ∧ i = .int .i64 j ∧ Hid (z = j * cn) ∧ wr.ownsRow wq.heap.size 2 1 v z ((tabOf S cn j).map (Value.int .i64)) ∧ Below wq.heap.size wq wr) (fun _ _ _ i _ => rn - (intOf i).toNat)
    case atStart =>
      refine ⟨0, 0, Nat.zero_le _, rfl, hid (by simp), ?_, (Below.refl _ _).alloc (Nat.le_refl _) _⟩
      exact World.ownsRow_made (size := 1) (e := 2) wq #[] 0 (Nat.le_refl _) (by unfold maxLen; omega) rfl
    case round =>
      obtain ⟨j, z, hj, rfl, HZ, hown, hbel⟩ := hrel
      have HOWN := hid hown
      have HBEL := hid hbel
      have hbx := HX2.out.below hbel
      have f0 := (hbx.2 0 _ rfl).1
      have f1 := (hbx.2 1 _ rfl).1
      clear hbx hown hbel
      by_cases hlt : j < rn
      · have hzc : z + cn ≤ la := by
          have h1 : (j + 1) * cn ≤ rn * cn := Nat.mul_le_mul_right _ hlt
          rw [Nat.succ_mul] at h1
          have := HLA.out; have := HZ.out; omega
        go_wp2_with fail
        go_loopw [4, 6, 20] (fun v x y wr => ∃ k : Nat, k ≤ cn ∧ y = .int .i64 k ∧ wr.ownsRow wq.heap.size 2 1 v (z + k) ((tabOf S cn j ++ rowOf S j k).map (Value.int .i64)) ∧ Below wq.heap.size wq wr) (fun _ _ y _ => cn - (intOf y).toNat)
        case atStart => exact ⟨0, Nat.zero_le _, rfl, by rw [rowOf, List.append_nil]; exact HOWN.out, HBEL.out⟩
        case round =>
          obtain ⟨k, hk, rfl, hown, hbel⟩ := hrel
          rename World => w2
          have hbx := HX2.out.below hbel
          have HOWK := hid hown
          have HBLK := hid hbel
          clear f0 f1
          have f0 := (hbx.2 0 _ rfl).1
          have f1 := (hbx.2 1 _ rfl).1
          have f2 := (hbx.2 2 _ rfl).1
          have f3 := (hbx.2 3 _ rfl).1
          clear hbx hown hbel
          by_cases hkl : k < cn
          · obtain ⟨s, hs⟩ : ∃ s, z + k = s := ⟨_, rfl⟩
            have hsl : s < la := by omega
            have e1 := idx_lt hlt hkl
            have e2 := idx_lt (show 0 < rn by omega) hkl
            have e3 := idx_lt (show 0 < rn by omega) (show 0 < cn by omega)
            have q1 := HX6.out (j * cn + k) (by have := HLA.out; omega)
            have q2 := HX6.out (0 * cn + k) (by have := HLA.out; omega)
            have q3 := HY6.out (0 * cn + k) (by have := HLB.out; omega)
            have q4 := HY6.out (0 * cn + 0) (by have := HLB.out; omega)
            have HV : Hid (S j k = at2 ys cn 0 k - at2 ys cn 0 0 + at2 xs cn j k - at2 xs cn 0 k) := hid (by rw [← HS.out]; rfl)
            have HC1 : Hid (∀ w', Below w2.heap.size w2 w' → Calls Try.prog 99 #[.agg #[.int .i64 rn, .int .i64 cn, .slice a la ca, .slice b lb cb], .int .i64 0, .int .i64 k] w' fun e w'' => e = .returned (.int .i64 (at2 ys cn 0 k)) ∧ Below w'.heap.size w' w'') := hid (fun w' hb => gBz rn cn a la ca b lb cb ys 0 k _ _ w' rfl rfl hr2 hc2 HLB.out ((HG2.out.below HBLK.out).below hb) (by omega) hkl)
            have HC2 : Hid (∀ w', Below w2.heap.size w2 w' → Calls Try.prog 99 #[.agg #[.int .i64 rn, .int .i64 cn, .slice a la ca, .slice b lb cb], .int .i64 0, .int .i64 0] w' fun e w'' => e = .returned (.int .i64 (at2 ys cn 0 0)) ∧ Below w'.heap.size w' w'') := hid (fun w' hb => gBz rn cn a la ca b lb cb ys 0 0 _ _ w' rfl rfl hr2 hc2 HLB.out ((HG2.out.below HBLK.out).below hb) (by omega) (by omega))
            have HC3 : Hid (∀ w', Below w2.heap.size w2 w' → Calls Try.prog 92 #[.agg #[.int .i64 rn, .int .i64 cn, .slice a la ca, .slice b lb cb], .int .i64 j, .int .i64 k] w' fun e w'' => e = .returned (.int .i64 (at2 xs cn j k)) ∧ Below w'.heap.size w' w'') := hid (fun w' hb => gAz rn cn a la ca xs b lb cb j k _ _ w' rfl rfl hr2 hc2 HLA.out ((HA2.out.below HBLK.out).below hb) hlt hkl)
            have HC4 : Hid (∀ w', Below w2.heap.size w2 w' → Calls Try.prog 92 #[.agg #[.int .i64 rn, .int .i64 cn, .slice a la ca, .slice b lb cb], .int .i64 0, .int .i64 k] w' fun e w'' => e = .returned (.int .i64 (at2 xs cn 0 k)) ∧ Below w'.heap.size w' w'') := hid (fun w' hb => gAz rn cn a la ca xs b lb cb 0 k _ _ w' rfl rfl hr2 hc2 HLA.out ((HA2.out.below HBLK.out).below hb) (by omega) hkl)
            change -1000 ≤ at2 xs cn j k ∧ at2 xs cn j k ≤ 1000 at q1
            change -1000 ≤ at2 xs cn 0 k ∧ at2 xs cn 0 k ≤ 1000 at q2
            change -1000 ≤ at2 ys cn 0 k ∧ at2 ys cn 0 k ≤ 1000 at q3
            change -1000 ≤ at2 ys cn 0 0 ∧ at2 ys cn 0 0 ≤ 1000 at q4
            generalize at2 xs cn j k = A1 at *
            generalize at2 xs cn 0 k = A0 at *
            generalize at2 ys cn 0 k = B1 at *
            generalize at2 ys cn 0 0 = B0 at *
            obtain ⟨d1, hd1⟩ : ∃ d, B1 - B0 = d := ⟨_, rfl⟩
            obtain ⟨d2, hd2⟩ : ∃ d, d1 + A1 = d := ⟨_, rfl⟩
            obtain ⟨d3, hd3⟩ : ∃ d, d2 - A0 = d := ⟨_, rfl⟩
            have t1 : IntKind.i64.wrap d1 = d1 := IntWalk.i64_in _ (by omega)
            have t2 : IntKind.i64.wrap d2 = d2 := IntWalk.i64_in _ (by omega)
            have t3 : IntKind.i64.wrap d3 = d3 := IntWalk.i64_in _ (by omega)
            have HV2 : Hid (S j k = d3) := hid (by rw [HV.out, hd1, hd2, hd3])
            have hzk : Hid (z + k = s) := hid hs
            have hs20 : s ≤ 1000 := by omega
            clear HV q1 q2 q3 q4 hs e1 e2 e3
            have HKEEPa : Hid (∀ w', Below w2.heap.size w2 w' → Below w2.heap.size w2 w' ∧ w'.cell? ⟨w.heap.size, 0, none⟩ = some (.int .i64 rn) ∧ w'.cell? ⟨w.heap.size, 1, none⟩ = some (.int .i64 cn) ∧ w'.cell? ⟨w.heap.size, 2, none⟩ = some (.slice a la ca) ∧ w'.cell? ⟨w.heap.size, 3, none⟩ = some (.slice b lb cb)) := hid (fun w' hb => ⟨hb, cellB hb f0, cellB hb f1, cellB hb f2, cellB hb f3⟩)
            go_wp2_with fail
            refine Dt.start (n := 19) (by kernel_rfl) (by kernel_rfl) ?_
            refine wpAny_take (i := 0) (v := ?vap0) rfl (by kernel_rfl) (by kernel_rfl) (by kernel_rfl) (fun _ _ _ h => h) (Or.inl ⟨by kernel_rfl, ?yap0⟩) ?rap0
            case yap0 => (intro w; go_simp; try with_reducible rfl)
            case rap0 =>
            try simp only [Act.put, List.setIfInBounds_toArray, List.set_cons_zero, List.set_cons_succ]
            refine Dt.enter (S := fun w' => Below w2.heap.size w2 w' ∧ w'.cell? ⟨w.heap.size, 0, none⟩ = some (.int .i64 rn) ∧ w'.cell? ⟨w.heap.size, 1, none⟩ = some (.int .i64 cn) ∧ w'.cell? ⟨w.heap.size, 2, none⟩ = some (.slice a la ca) ∧ w'.cell? ⟨w.heap.size, 3, none⟩ = some (.slice b lb cb)) (T := [16, 17, 18]) (m := 3) (n := 15) (by kernel_rfl) (by kernel_rfl) (by kernel_rfl) (by kernel_rfl) ?aS ?aD
            case aS => (first | exact HKEEPa.out _ (Below.refl _ _).drew | (fail))
            case aD =>
            refine Dt.quiet (i := 1) (v := ?va1) rfl rfl (by kernel_rfl) (by kernel_rfl) (by kernel_rfl) ?ya1 ?ra1
            case ya1 => (intro w hSw; (try dsimp only at hSw); go_simp; try with_reducible rfl)
            case ra1 =>
            try simp only [Act.put, List.setIfInBounds_toArray, List.set_cons_zero, List.set_cons_succ]
            refine Dt.quiet (i := 2) (v := ?va2) rfl rfl (by kernel_rfl) (by kernel_rfl) (by kernel_rfl) ?ya2 ?ra2
            case ya2 => (intro w hSw; (try dsimp only at hSw); go_simp; try with_reducible rfl)
            case ra2 =>
            try simp only [Act.put, List.setIfInBounds_toArray, List.set_cons_zero, List.set_cons_succ]
            refine Dt.act (i := 3) (v := ?va3) rfl rfl (by kernel_rfl) (by kernel_rfl) (by kernel_rfl) ?ya3 ?ra3
            case ya3 => (intro w K hSw hK; (try dsimp only at hSw); go_simp; refine Calls.mono (HC1.out _ hSw.1) ?_; rintro e w1 ⟨rfl, hb⟩; refine ⟨_, rfl, hK.out _ _ ?_ (HKEEPa.out _ (below_to hSw.1 hb))⟩; with_reducible rfl)
            case ra3 =>
            try simp only [Act.put, List.setIfInBounds_toArray, List.set_cons_zero, List.set_cons_succ]
            refine Dt.quiet (i := 4) (v := ?va4) rfl rfl (by kernel_rfl) (by kernel_rfl) (by kernel_rfl) ?ya4 ?ra4
            case ya4 => (intro w hSw; (try dsimp only at hSw); go_simp; try with_reducible rfl)
            case ra4 =>
            try simp only [Act.put, List.setIfInBounds_toArray, List.set_cons_zero, List.set_cons_succ]
            refine Dt.act (i := 5) (v := ?va5) rfl rfl (by kernel_rfl) (by kernel_rfl) (by kernel_rfl) ?ya5 ?ra5
            case ya5 => (intro w K hSw hK; (try dsimp only at hSw); go_simp; refine Calls.mono (HC2.out _ hSw.1) ?_; rintro e w1 ⟨rfl, hb⟩; refine ⟨_, rfl, hK.out _ _ ?_ (HKEEPa.out _ (below_to hSw.1 hb))⟩; with_reducible rfl)
            case ra5 =>
            try simp only [Act.put, List.setIfInBounds_toArray, List.set_cons_zero, List.set_cons_succ]
            refine Dt.quiet (i := 6) (v := ?va6) rfl rfl (by kernel_rfl) (by kernel_rfl) (by kernel_rfl) ?ya6 ?ra6
            case ya6 => (intro w hSw; (try dsimp only at hSw); go_simp; try with_reducible rfl)
            case ra6 =>
            try simp only [Act.put, List.setIfInBounds_toArray, List.set_cons_zero, List.set_cons_succ]
            refine Dt.quiet (i := 7) (v := ?va7) rfl rfl (by kernel_rfl) (by kernel_rfl) (by kernel_rfl) ?ya7 ?ra7
            case ya7 => (intro w hSw; (try dsimp only at hSw); go_simp; try with_reducible rfl)
            case ra7 =>
            try simp only [Act.put, List.setIfInBounds_toArray, List.set_cons_zero, List.set_cons_succ]
            refine Dt.quiet (i := 8) (v := ?va8) rfl rfl (by kernel_rfl) (by kernel_rfl) (by kernel_rfl) ?ya8 ?ra8
            case ya8 => (intro w hSw; (try dsimp only at hSw); go_simp; try with_reducible rfl)
            case ra8 =>
            try simp only [Act.put, List.setIfInBounds_toArray, List.set_cons_zero, List.set_cons_succ]
            refine Dt.quiet (i := 9) (v := ?va9) rfl rfl (by kernel_rfl) (by kernel_rfl) (by kernel_rfl) ?ya9 ?ra9
            case ya9 => (intro w hSw; (try dsimp only at hSw); go_simp; try with_reducible rfl)
            case ra9 =>
            try simp only [Act.put, List.setIfInBounds_toArray, List.set_cons_zero, List.set_cons_succ]
            refine Dt.act (i := 10) (v := ?va10) rfl rfl (by kernel_rfl) (by kernel_rfl) (by kernel_rfl) ?ya10 ?ra10
            case ya10 => (intro w K hSw hK; (try dsimp only at hSw); go_simp; refine Calls.mono (HC3.out _ hSw.1) ?_; rintro e w1 ⟨rfl, hb⟩; refine ⟨_, rfl, hK.out _ _ ?_ (HKEEPa.out _ (below_to hSw.1 hb))⟩; with_reducible rfl)
            case ra10 =>
            try simp only [Act.put, List.setIfInBounds_toArray, List.set_cons_zero, List.set_cons_succ]
            refine Dt.quiet (i := 11) (v := ?va11) rfl rfl (by kernel_rfl) (by kernel_rfl) (by kernel_rfl) ?ya11 ?ra11
            case ya11 => (intro w hSw; (try dsimp only at hSw); go_simp; try with_reducible rfl)
            case ra11 =>
            try simp only [Act.put, List.setIfInBounds_toArray, List.set_cons_zero, List.set_cons_succ]
            refine Dt.quiet (i := 12) (v := ?va12) rfl rfl (by kernel_rfl) (by kernel_rfl) (by kernel_rfl) ?ya12 ?ra12
            case ya12 => (intro w hSw; (try dsimp only at hSw); go_simp; try with_reducible rfl)
            case ra12 =>
            try simp only [Act.put, List.setIfInBounds_toArray, List.set_cons_zero, List.set_cons_succ]
            refine Dt.quiet (i := 13) (v := ?va13) rfl rfl (by kernel_rfl) (by kernel_rfl) (by kernel_rfl) ?ya13 ?ra13
            case ya13 => (intro w hSw; (try dsimp only at hSw); go_simp; try with_reducible rfl)
            case ra13 =>
            try simp only [Act.put, List.setIfInBounds_toArray, List.set_cons_zero, List.set_cons_succ]
            refine Dt.act (i := 14) (v := ?va14) rfl rfl (by kernel_rfl) (by kernel_rfl) (by kernel_rfl) ?ya14 ?ra14
            case ya14 => (intro w K hSw hK; (try dsimp only at hSw); go_simp; refine Calls.mono (HC4.out _ hSw.1) ?_; rintro e w1 ⟨rfl, hb⟩; refine ⟨_, rfl, hK.out _ _ ?_ (HKEEPa.out _ (below_to hSw.1 hb))⟩; with_reducible rfl)
            case ra14 =>
            try simp only [Act.put, List.setIfInBounds_toArray, List.set_cons_zero, List.set_cons_succ]
            refine Dt.quiet (i := 15) (v := ?va15) rfl rfl (by kernel_rfl) (by kernel_rfl) (by kernel_rfl) ?ya15 ?ra15
            case ya15 => (intro w hSw; (try dsimp only at hSw); go_simp; try with_reducible rfl)
            case ra15 =>
            try simp only [Act.put, List.setIfInBounds_toArray, List.set_cons_zero, List.set_cons_succ]
            refine Dt.last 16 (by kernel_rfl) (by kernel_rfl) (by kernel_rfl) ?_
            intro wza hSza
            simp only [List.drop_succ_cons, List.drop_zero]
            have HOWN3 := hid (row_below HOWK.out hSza.1)
            have HBL3 := hid (below_to HBLK.out hSza.1)
            rw [hzk.out] at HOWN3
            clear hSza
            go_wp2_with (at_builtin; refine wpList_appI rfl (.tmp 23) (.tmp 39) rfl wq _ s (tabOf S cn j ++ rowOf S j k) d3 rfl HOWN3.out HBL3.out (by omega) rfl ?_; intro v2 w6 hown1 hb1; have HO1 := hid hown1; have HB1 := hid hb1; clear hown1 hb1)
            go_roundw
            case rel => exact ⟨k + 1, by omega, by go_num, by rw [← Nat.add_assoc, hzk.out, rowOf, HV2.out, ← List.append_assoc]; exact HO1.out, HB1.out⟩
            case measure => simp [intOf]; omega
          · obtain rfl : k = cn := by omega
            go_wp2_with fail
            go_roundw
            case rel => exact ⟨j + 1, z + k, by omega, by go_num, hid (by rw [HZ.out, Nat.succ_mul]), HOWK.out, HBLK.out⟩
            case measure => simp [intOf]; omega
      · obtain rfl : j = rn := by omega
        clear f0 f1
        have hzla : z = la := by rw [HZ.out, HLA.out]
        obtain ⟨a1, cap1, hv, hcap, hob⟩ := OwB.of_row HOWN.out
        subst hv
        have HOB := hid hob
        obtain ⟨b3, ha3, -, -, hb3, hcO⟩ := hob.2 (by omega)
        subst ha3
        have HCO : Hid (∀ i, i < z → wr.cell? ⟨b3, i, none⟩ = some (.int .i64 ((tabOf S cn j).getD i 0))) := hid (fun i hi => (hcO i hi).1)
        clear hcO hob
        rename World => wo
        have HX3 := hid (HX2.out.below HBEL.out)
        have f0 := (HX3.out.2 0 _ rfl).1
        have f1 := (HX3.out.2 1 _ rfl).1
        have f2 := (HX3.out.2 2 _ rfl).1
        have f3 := (HX3.out.2 3 _ rfl).1
        go_wp2_with fail
        go_loopw [7, 8, 45] (fun x y i wr => ∃ p : Nat, p ≤ j ∧ i = .int .i64 p ∧ Hid (okTab xs ys cn p = true) ∧ Below wo.heap.size wo wr) (fun _ _ i _ => j - (intOf i).toNat)
        case atStart => exact ⟨0, Nat.zero_le _, rfl, hid rfl, Below.refl _ _⟩
        case round =>
          obtain ⟨p, hp, rfl, HOK, hbel⟩ := hrel
          rename World => wp
          have HBP := hid hbel
          clear f0 f1 f2 f3 hbel
          have hbx := HX3.out.below HBP.out
          have f0 := (hbx.2 0 _ rfl).1
          have f1 := (hbx.2 1 _ rfl).1
          clear hbx
          by_cases hlt2 : p < j
          · obtain ⟨q, hq⟩ : ∃ q, p * cn = q := ⟨_, rfl⟩
            have hqi : (p : Int) * (cn : Int) = (q : Int) := by rw [← hq]; push_cast; rfl
            have hqc : q + cn ≤ la := by
              have h1 : (p + 1) * cn ≤ j * cn := Nat.mul_le_mul_right _ hlt2
              rw [Nat.succ_mul] at h1
              have := HLA.out; omega
            have hqw : IntKind.i64.wrap (q : Int) = (q : Int) := IntWalk.i64_in _ (by omega)
            have HQ := hid hq
            clear hq
            go_wp2_with fail
            go_loopw [8, 50] (fun x y wr => ∃ k : Nat, k ≤ cn ∧ y = .int .i64 k ∧ Hid (okRow xs ys cn p k = true) ∧ Below wo.heap.size wo wr) (fun _ y _ => cn - (intOf y).toNat)
            case atStart => exact ⟨0, Nat.zero_le _, rfl, hid rfl, HBP.out⟩
            case round =>
              obtain ⟨k, hk, rfl, HOR, hbel⟩ := hrel
              rename World => w2
              have HBK := hid hbel
              clear f0 f1 hbel
              have hbx := HX3.out.below HBK.out
              have f0 := (hbx.2 0 _ rfl).1
              have f1 := (hbx.2 1 _ rfl).1
              have f2 := (hbx.2 2 _ rfl).1
              have f3 := (hbx.2 3 _ rfl).1
              clear hbx
              by_cases hkl : k < cn
              · obtain ⟨s, hs⟩ : ∃ s, q + k = s := ⟨_, rfl⟩
                have hsl : s < la := by omega
                have hsz : s < z := by omega
                have hsi : (q : Int) + (k : Int) = (s : Int) := by rw [← hs]; push_cast; rfl
                have hsw : IntKind.i64.wrap (s : Int) = (s : Int) := IntWalk.i64_in _ (by omega)
                have c1 : w2.cell? ⟨b3, s, none⟩ = some (.int .i64 (S p k)) := cellB HBK.out (by
                  rw [HCO.out s hsz, ← hs, ← HQ.out, tabOf_get S cn j p k hlt2 hkl])
                have c2 : w2.cell? ⟨b3, q, none⟩ = some (.int .i64 (S p 0)) := cellB HBK.out (by
                  have := HCO.out q (by omega)
                  have e := tabOf_get S cn j p 0 hlt2 (by omega)
                  rw [Nat.add_zero, HQ.out] at e
                  rw [this, e])
                have q1 : -4000 ≤ S p k ∧ S p k ≤ 4000 := by rw [← HS.out]; exact potI_bd HX6.out HY6.out HLA.out HLB.out hlt2 hkl
                have q2 : -4000 ≤ S p 0 ∧ S p 0 ≤ 4000 := by rw [← HS.out]; exact potI_bd HX6.out HY6.out HLA.out HLB.out hlt2 (by omega)
                have q3 : -1000 ≤ at2 ys cn p k ∧ at2 ys cn p k ≤ 1000 := HY6.out _ (by rw [HQ.out]; have := HLB.out; have := HLA.out; omega)
                have q4 : -1000 ≤ at2 ys cn p 0 ∧ at2 ys cn p 0 ≤ 1000 := HY6.out _ (by rw [HQ.out]; have := HLB.out; have := HLA.out; omega)
                have hch := chkI xs ys cn p k
                rw [HS.out] at hch
                have HC1 : Hid (∀ w', Below w2.heap.size w2 w' → Calls Try.prog 99 #[.agg #[.int .i64 j, .int .i64 cn, .slice a la ca, .slice b lb cb], .int .i64 p, .int .i64 k] w' fun e w'' => e = .returned (.int .i64 (at2 ys cn p k)) ∧ Below w'.heap.size w' w'') := hid (fun w' hb => gBz j cn a la ca b lb cb ys p k _ _ w' rfl rfl hr2 hc2 HLB.out (((HG2.out.below HBEL.out).below HBK.out).below hb) hlt2 hkl)
                have HC2 : Hid (∀ w', Below w2.heap.size w2 w' → Calls Try.prog 99 #[.agg #[.int .i64 j, .int .i64 cn, .slice a la ca, .slice b lb cb], .int .i64 p, .int .i64 0] w' fun e w'' => e = .returned (.int .i64 (at2 ys cn p 0)) ∧ Below w'.heap.size w' w'') := hid (fun w' hb => gBz j cn a la ca b lb cb ys p 0 _ _ w' rfl rfl hr2 hc2 HLB.out (((HG2.out.below HBEL.out).below HBK.out).below hb) hlt2 (by omega))
                obtain ⟨P1, hP1⟩ : ∃ v, S p k = v := ⟨_, rfl⟩
                obtain ⟨P0, hP0⟩ : ∃ v, S p 0 = v := ⟨_, rfl⟩
                obtain ⟨A1, hA1⟩ : ∃ v, at2 ys cn p k = v := ⟨_, rfl⟩
                obtain ⟨A0, hA0⟩ : ∃ v, at2 ys cn p 0 = v := ⟨_, rfl⟩
                have HP1 := hid hP1
                rw [hP1, hP0, hA1, hA0] at hch
                rw [hP1] at c1 q1
                rw [hP0] at c2 q2
                rw [hA1] at HC1 q3
                rw [hA0] at HC2 q4
                obtain ⟨d1, hd1⟩ : ∃ d, P1 - P0 = d := ⟨_, rfl⟩
                obtain ⟨d2, hd2⟩ : ∃ d, A1 - A0 = d := ⟨_, rfl⟩
                rw [hd1, hd2] at hch
                have t1 : IntKind.i64.wrap d1 = d1 := IntWalk.i64_in _ (by omega)
                have t2 : IntKind.i64.wrap d2 = d2 := IntWalk.i64_in _ (by omega)
                have i1 : (0 : Int) ≤ (s : Int) := by omega
                have i3 : (s : Int) < (z : Int) := by omega
                have i5 : (q : Int) < (z : Int) := by omega
                have i6 : (0 : Int) ≤ (q : Int) := by omega
                have HSS := hid hs
                have HZL := hid hzla
                clear hP1 hP0 hA1 hA0 q1 q2 q3 q4 hs hzla
                have HKEEPb : Hid (∀ w', Below w2.heap.size w2 w' → Below w2.heap.size w2 w' ∧ w'.cell? ⟨w.heap.size, 0, none⟩ = some (.int .i64 j) ∧ w'.cell? ⟨w.heap.size, 1, none⟩ = some (.int .i64 cn) ∧ w'.cell? ⟨w.heap.size, 2, none⟩ = some (.slice a la ca) ∧ w'.cell? ⟨w.heap.size, 3, none⟩ = some (.slice b lb cb) ∧ w'.cell? ⟨b3, s, none⟩ = some (.int .i64 P1) ∧ w'.cell? ⟨b3, q, none⟩ = some (.int .i64 P0)) := hid (fun w' hb => ⟨hb, cellB hb f0, cellB hb f1, cellB hb f2, cellB hb f3, cellB hb c1, cellB hb c2⟩)
                by_cases hc : P1 = potS xs ys cn p k
                · rw [decide_eq_true hc, Bool.not_true] at hch
                  have HC : Hid (okRow xs ys cn p (k + 1) = true) := hid (by
                    rw [okRow, HOR.out, Bool.true_and, decide_eq_true_iff, HS.out, HP1.out]; exact hc)
                  clear hc
                  go_wp2_with fail
                  refine Dt.start (n := 26) (by kernel_rfl) (by kernel_rfl) ?_
                  refine Dt.enter (S := fun w' => Below w2.heap.size w2 w' ∧ w'.cell? ⟨w.heap.size, 0, none⟩ = some (.int .i64 j) ∧ w'.cell? ⟨w.heap.size, 1, none⟩ = some (.int .i64 cn) ∧ w'.cell? ⟨w.heap.size, 2, none⟩ = some (.slice a la ca) ∧ w'.cell? ⟨w.heap.size, 3, none⟩ = some (.slice b lb cb) ∧ w'.cell? ⟨b3, s, none⟩ = some (.int .i64 P1) ∧ w'.cell? ⟨b3, q, none⟩ = some (.int .i64 P0)) (T := []) (m := 0) (n := 26) (by kernel_rfl) (by kernel_rfl) (by kernel_rfl) (by kernel_rfl) ?bS ?bD
                  case bS => (first | exact HKEEPb.out _ (Below.refl _ _).drew | (fail))
                  case bD =>
                  refine Dt.quiet (i := 0) (v := ?vb0) rfl rfl (by kernel_rfl) (by kernel_rfl) (by kernel_rfl) ?yb0 ?rb0
                  case yb0 => (intro w hSw; (try dsimp only at hSw); go_simp; try with_reducible rfl)
                  case rb0 =>
                  try simp only [Act.put, List.setIfInBounds_toArray, List.set_cons_zero, List.set_cons_succ]
                  refine Dt.quiet (i := 1) (v := ?vb1) rfl rfl (by kernel_rfl) (by kernel_rfl) (by kernel_rfl) ?yb1 ?rb1
                  case yb1 => (intro w hSw; (try dsimp only at hSw); go_simp; try with_reducible rfl)
                  case rb1 =>
                  try simp only [Act.put, List.setIfInBounds_toArray, List.set_cons_zero, List.set_cons_succ]
                  refine Dt.quiet (i := 2) (v := ?vb2) rfl rfl (by kernel_rfl) (by kernel_rfl) (by kernel_rfl) ?yb2 ?rb2
                  case yb2 => (intro w hSw; (try dsimp only at hSw); go_simp; try with_reducible rfl)
                  case rb2 =>
                  try simp only [Act.put, List.setIfInBounds_toArray, List.set_cons_zero, List.set_cons_succ]
                  refine Dt.quiet (i := 3) (v := ?vb3) rfl rfl (by kernel_rfl) (by kernel_rfl) (by kernel_rfl) ?yb3 ?rb3
                  case yb3 => (intro w hSw; (try dsimp only at hSw); go_simp; try with_reducible rfl)
                  case rb3 =>
                  try simp only [Act.put, List.setIfInBounds_toArray, List.set_cons_zero, List.set_cons_succ]
                  refine Dt.quiet (i := 4) (v := ?vb4) rfl rfl (by kernel_rfl) (by kernel_rfl) (by kernel_rfl) ?yb4 ?rb4
                  case yb4 => (intro w hSw; (try dsimp only at hSw); go_simp; try with_reducible rfl)
                  case rb4 =>
                  try simp only [Act.put, List.setIfInBounds_toArray, List.set_cons_zero, List.set_cons_succ]
                  refine Dt.quiet (i := 5) (v := ?vb5) rfl rfl (by kernel_rfl) (by kernel_rfl) (by kernel_rfl) ?yb5 ?rb5
                  case yb5 => (intro w hSw; (try dsimp only at hSw); go_simp; try with_reducible rfl)
                  case rb5 =>
                  try simp only [Act.put, List.setIfInBounds_toArray, List.set_cons_zero, List.set_cons_succ]
                  refine Dt.quiet (i := 6) (v := ?vb6) rfl rfl (by kernel_rfl) (by kernel_rfl) (by kernel_rfl) ?yb6 ?rb6
                  case yb6 => (intro w hSw; (try dsimp only at hSw); go_simp; try with_reducible rfl)
                  case rb6 =>
                  try simp only [Act.put, List.setIfInBounds_toArray, List.set_cons_zero, List.set_cons_succ]
                  refine Dt.quiet (i := 7) (v := ?vb7) rfl rfl (by kernel_rfl) (by kernel_rfl) (by kernel_rfl) ?yb7 ?rb7
                  case yb7 => (intro w hSw; (try dsimp only at hSw); go_simp; try with_reducible rfl)
                  case rb7 =>
                  try simp only [Act.put, List.setIfInBounds_toArray, List.set_cons_zero, List.set_cons_succ]
                  refine Dt.quiet (i := 8) (v := ?vb8) rfl rfl (by kernel_rfl) (by kernel_rfl) (by kernel_rfl) ?yb8 ?rb8
                  case yb8 => (intro w hSw; (try dsimp only at hSw); go_simp; try with_reducible rfl)
                  case rb8 =>
                  try simp only [Act.put, List.setIfInBounds_toArray, List.set_cons_zero, List.set_cons_succ]
                  refine Dt.quiet (i := 9) (v := ?vb9) rfl rfl (by kernel_rfl) (by kernel_rfl) (by kernel_rfl) ?yb9 ?rb9
                  case yb9 => (intro w hSw; (try dsimp only at hSw); go_simp; try with_reducible rfl)
                  case rb9 =>
                  try simp only [Act.put, List.setIfInBounds_toArray, List.set_cons_zero, List.set_cons_succ]
                  refine Dt.quiet (i := 10) (v := ?vb10) rfl rfl (by kernel_rfl) (by kernel_rfl) (by kernel_rfl) ?yb10 ?rb10
                  case yb10 => (intro w hSw; (try dsimp only at hSw); go_simp; try with_reducible rfl)
                  case rb10 =>
                  try simp only [Act.put, List.setIfInBounds_toArray, List.set_cons_zero, List.set_cons_succ]
                  refine Dt.quiet (i := 11) (v := ?vb11) rfl rfl (by kernel_rfl) (by kernel_rfl) (by kernel_rfl) ?yb11 ?rb11
                  case yb11 => (intro w hSw; (try dsimp only at hSw); go_simp; try with_reducible rfl)
                  case rb11 =>
                  try simp only [Act.put, List.setIfInBounds_toArray, List.set_cons_zero, List.set_cons_succ]
                  refine Dt.quiet (i := 12) (v := ?vb12) rfl rfl (by kernel_rfl) (by kernel_rfl) (by kernel_rfl) ?yb12 ?rb12
                  case yb12 => (intro w hSw; (try dsimp only at hSw); go_simp; try with_reducible rfl)
                  case rb12 =>
                  try simp only [Act.put, List.setIfInBounds_toArray, List.set_cons_zero, List.set_cons_succ]
                  refine Dt.quiet (i := 13) (v := ?vb13) rfl rfl (by kernel_rfl) (by kernel_rfl) (by kernel_rfl) ?yb13 ?rb13
                  case yb13 => (intro w hSw; (try dsimp only at hSw); go_simp; try with_reducible rfl)
                  case rb13 =>
                  try simp only [Act.put, List.setIfInBounds_toArray, List.set_cons_zero, List.set_cons_succ]
                  refine Dt.quiet (i := 14) (v := ?vb14) rfl rfl (by kernel_rfl) (by kernel_rfl) (by kernel_rfl) ?yb14 ?rb14
                  case yb14 => (intro w hSw; (try dsimp only at hSw); go_simp; try with_reducible rfl)
                  case rb14 =>
                  try simp only [Act.put, List.setIfInBounds_toArray, List.set_cons_zero, List.set_cons_succ]
                  refine Dt.quiet (i := 15) (v := ?vb15) rfl rfl (by kernel_rfl) (by kernel_rfl) (by kernel_rfl) ?yb15 ?rb15
                  case yb15 => (intro w hSw; (try dsimp only at hSw); go_simp; try with_reducible rfl)
                  case rb15 =>
                  try simp only [Act.put, List.setIfInBounds_toArray, List.set_cons_zero, List.set_cons_succ]
                  refine Dt.quiet (i := 16) (v := ?vb16) rfl rfl (by kernel_rfl) (by kernel_rfl) (by kernel_rfl) ?yb16 ?rb16
                  case yb16 => (intro w hSw; (try dsimp only at hSw); go_simp; try with_reducible rfl)
                  case rb16 =>
                  try simp only [Act.put, List.setIfInBounds_toArray, List.set_cons_zero, List.set_cons_succ]
                  refine Dt.quiet (i := 17) (v := ?vb17) rfl rfl (by kernel_rfl) (by kernel_rfl) (by kernel_rfl) ?yb17 ?rb17
                  case yb17 => (intro w hSw; (try dsimp only at hSw); go_simp; try with_reducible rfl)
                  case rb17 =>
                  try simp only [Act.put, List.setIfInBounds_toArray, List.set_cons_zero, List.set_cons_succ]
                  refine Dt.quiet (i := 18) (v := ?vb18) rfl rfl (by kernel_rfl) (by kernel_rfl) (by kernel_rfl) ?yb18 ?rb18
                  case yb18 => (intro w hSw; (try dsimp only at hSw); go_simp; try with_reducible rfl)
                  case rb18 =>
                  try simp only [Act.put, List.setIfInBounds_toArray, List.set_cons_zero, List.set_cons_succ]
                  refine Dt.quiet (i := 19) (v := ?vb19) rfl rfl (by kernel_rfl) (by kernel_rfl) (by kernel_rfl) ?yb19 ?rb19
                  case yb19 => (intro w hSw; (try dsimp only at hSw); go_simp; try with_reducible rfl)
                  case rb19 =>
                  try simp only [Act.put, List.setIfInBounds_toArray, List.set_cons_zero, List.set_cons_succ]
                  refine Dt.act (i := 20) (v := ?vb20) rfl rfl (by kernel_rfl) (by kernel_rfl) (by kernel_rfl) ?yb20 ?rb20
                  case yb20 => (intro w K hSw hK; (try dsimp only at hSw); go_simp; refine Calls.mono (HC1.out _ hSw.1) ?_; rintro e w1 ⟨rfl, hb⟩; refine ⟨_, rfl, hK.out _ _ ?_ (HKEEPb.out _ (below_to hSw.1 hb))⟩; with_reducible rfl)
                  case rb20 =>
                  try simp only [Act.put, List.setIfInBounds_toArray, List.set_cons_zero, List.set_cons_succ]
                  refine Dt.quiet (i := 21) (v := ?vb21) rfl rfl (by kernel_rfl) (by kernel_rfl) (by kernel_rfl) ?yb21 ?rb21
                  case yb21 => (intro w hSw; (try dsimp only at hSw); go_simp; try with_reducible rfl)
                  case rb21 =>
                  try simp only [Act.put, List.setIfInBounds_toArray, List.set_cons_zero, List.set_cons_succ]
                  refine Dt.quiet (i := 22) (v := ?vb22) rfl rfl (by kernel_rfl) (by kernel_rfl) (by kernel_rfl) ?yb22 ?rb22
                  case yb22 => (intro w hSw; (try dsimp only at hSw); go_simp; try with_reducible rfl)
                  case rb22 =>
                  try simp only [Act.put, List.setIfInBounds_toArray, List.set_cons_zero, List.set_cons_succ]
                  refine Dt.act (i := 23) (v := ?vb23) rfl rfl (by kernel_rfl) (by kernel_rfl) (by kernel_rfl) ?yb23 ?rb23
                  case yb23 => (intro w K hSw hK; (try dsimp only at hSw); go_simp; refine Calls.mono (HC2.out _ hSw.1) ?_; rintro e w1 ⟨rfl, hb⟩; refine ⟨_, rfl, hK.out _ _ ?_ (HKEEPb.out _ (below_to hSw.1 hb))⟩; with_reducible rfl)
                  case rb23 =>
                  try simp only [Act.put, List.setIfInBounds_toArray, List.set_cons_zero, List.set_cons_succ]
                  refine Dt.quiet (i := 24) (v := ?vb24) rfl rfl (by kernel_rfl) (by kernel_rfl) (by kernel_rfl) ?yb24 ?rb24
                  case yb24 => (intro w hSw; (try dsimp only at hSw); go_simp; try with_reducible rfl)
                  case rb24 =>
                  try simp only [Act.put, List.setIfInBounds_toArray, List.set_cons_zero, List.set_cons_succ]
                  refine Dt.quiet (i := 25) (v := ?vb25) rfl rfl (by kernel_rfl) (by kernel_rfl) (by kernel_rfl) ?yb25 ?rb25
                  case yb25 => (intro w hSw; (try dsimp only at hSw); go_simp; try with_reducible rfl)
                  case rb25 =>
                  try simp only [Act.put, List.setIfInBounds_toArray, List.set_cons_zero, List.set_cons_succ]
                  refine Dt.done (by kernel_rfl) (by kernel_rfl) ?_
                  intro wzb hSzb
                  have HBZ := hid (below_to HBK.out hSzb.1)
                  clear hSzb
                  go_wp2_with fail
                  go_roundw
                  case rel => exact ⟨k + 1, by omega, by go_num, HC, HBZ.out⟩
                  case measure => simp [intOf]; omega
                · rw [decide_eq_false hc, Bool.not_false] at hch
                  have HNO : Hid (okTab xs ys cn j = false) := hid (ok_no xs ys cn j p k hlt2 hkl (by rw [HS.out, HP1.out]; exact hc))
                  clear hc
                  have HKEEPc := HKEEPb
                  go_wp2_with fail
                  refine Dt.start (n := 26) (by kernel_rfl) (by kernel_rfl) ?_
                  refine Dt.enter (S := fun w' => Below w2.heap.size w2 w' ∧ w'.cell? ⟨w.heap.size, 0, none⟩ = some (.int .i64 j) ∧ w'.cell? ⟨w.heap.size, 1, none⟩ = some (.int .i64 cn) ∧ w'.cell? ⟨w.heap.size, 2, none⟩ = some (.slice a la ca) ∧ w'.cell? ⟨w.heap.size, 3, none⟩ = some (.slice b lb cb) ∧ w'.cell? ⟨b3, s, none⟩ = some (.int .i64 P1) ∧ w'.cell? ⟨b3, q, none⟩ = some (.int .i64 P0)) (T := []) (m := 0) (n := 26) (by kernel_rfl) (by kernel_rfl) (by kernel_rfl) (by kernel_rfl) ?cS ?cD
                  case cS => (first | exact HKEEPc.out _ (Below.refl _ _).drew | (fail))
                  case cD =>
                  refine Dt.quiet (i := 0) (v := ?vc0) rfl rfl (by kernel_rfl) (by kernel_rfl) (by kernel_rfl) ?yc0 ?rc0
                  case yc0 => (intro w hSw; (try dsimp only at hSw); go_simp; try with_reducible rfl)
                  case rc0 =>
                  try simp only [Act.put, List.setIfInBounds_toArray, List.set_cons_zero, List.set_cons_succ]
                  refine Dt.quiet (i := 1) (v := ?vc1) rfl rfl (by kernel_rfl) (by kernel_rfl) (by kernel_rfl) ?yc1 ?rc1
                  case yc1 => (intro w hSw; (try dsimp only at hSw); go_simp; try with_reducible rfl)
                  case rc1 =>
                  try simp only [Act.put, List.setIfInBounds_toArray, List.set_cons_zero, List.set_cons_succ]
                  refine Dt.quiet (i := 2) (v := ?vc2) rfl rfl (by kernel_rfl) (by kernel_rfl) (by kernel_rfl) ?yc2 ?rc2
                  case yc2 => (intro w hSw; (try dsimp only at hSw); go_simp; try with_reducible rfl)
                  case rc2 =>
                  try simp only [Act.put, List.setIfInBounds_toArray, List.set_cons_zero, List.set_cons_succ]
                  refine Dt.quiet (i := 3) (v := ?vc3) rfl rfl (by kernel_rfl) (by kernel_rfl) (by kernel_rfl) ?yc3 ?rc3
                  case yc3 => (intro w hSw; (try dsimp only at hSw); go_simp; try with_reducible rfl)
                  case rc3 =>
                  try simp only [Act.put, List.setIfInBounds_toArray, List.set_cons_zero, List.set_cons_succ]
                  refine Dt.quiet (i := 4) (v := ?vc4) rfl rfl (by kernel_rfl) (by kernel_rfl) (by kernel_rfl) ?yc4 ?rc4
                  case yc4 => (intro w hSw; (try dsimp only at hSw); go_simp; try with_reducible rfl)
                  case rc4 =>
                  try simp only [Act.put, List.setIfInBounds_toArray, List.set_cons_zero, List.set_cons_succ]
                  refine Dt.quiet (i := 5) (v := ?vc5) rfl rfl (by kernel_rfl) (by kernel_rfl) (by kernel_rfl) ?yc5 ?rc5
                  case yc5 => (intro w hSw; (try dsimp only at hSw); go_simp; try with_reducible rfl)
                  case rc5 =>
                  try simp only [Act.put, List.setIfInBounds_toArray, List.set_cons_zero, List.set_cons_succ]
                  refine Dt.quiet (i := 6) (v := ?vc6) rfl rfl (by kernel_rfl) (by kernel_rfl) (by kernel_rfl) ?yc6 ?rc6
                  case yc6 => (intro w hSw; (try dsimp only at hSw); go_simp; try with_reducible rfl)
                  case rc6 =>
                  try simp only [Act.put, List.setIfInBounds_toArray, List.set_cons_zero, List.set_cons_succ]
                  refine Dt.quiet (i := 7) (v := ?vc7) rfl rfl (by kernel_rfl) (by kernel_rfl) (by kernel_rfl) ?yc7 ?rc7
                  case yc7 => (intro w hSw; (try dsimp only at hSw); go_simp; try with_reducible rfl)
                  case rc7 =>
                  try simp only [Act.put, List.setIfInBounds_toArray, List.set_cons_zero, List.set_cons_succ]
                  refine Dt.quiet (i := 8) (v := ?vc8) rfl rfl (by kernel_rfl) (by kernel_rfl) (by kernel_rfl) ?yc8 ?rc8
                  case yc8 => (intro w hSw; (try dsimp only at hSw); go_simp; try with_reducible rfl)
                  case rc8 =>
                  try simp only [Act.put, List.setIfInBounds_toArray, List.set_cons_zero, List.set_cons_succ]
                  refine Dt.quiet (i := 9) (v := ?vc9) rfl rfl (by kernel_rfl) (by kernel_rfl) (by kernel_rfl) ?yc9 ?rc9
                  case yc9 => (intro w hSw; (try dsimp only at hSw); go_simp; try with_reducible rfl)
                  case rc9 =>
                  try simp only [Act.put, List.setIfInBounds_toArray, List.set_cons_zero, List.set_cons_succ]
                  refine Dt.quiet (i := 10) (v := ?vc10) rfl rfl (by kernel_rfl) (by kernel_rfl) (by kernel_rfl) ?yc10 ?rc10
                  case yc10 => (intro w hSw; (try dsimp only at hSw); go_simp; try with_reducible rfl)
                  case rc10 =>
                  try simp only [Act.put, List.setIfInBounds_toArray, List.set_cons_zero, List.set_cons_succ]
                  refine Dt.quiet (i := 11) (v := ?vc11) rfl rfl (by kernel_rfl) (by kernel_rfl) (by kernel_rfl) ?yc11 ?rc11
                  case yc11 => (intro w hSw; (try dsimp only at hSw); go_simp; try with_reducible rfl)
                  case rc11 =>
                  try simp only [Act.put, List.setIfInBounds_toArray, List.set_cons_zero, List.set_cons_succ]
                  refine Dt.quiet (i := 12) (v := ?vc12) rfl rfl (by kernel_rfl) (by kernel_rfl) (by kernel_rfl) ?yc12 ?rc12
                  case yc12 => (intro w hSw; (try dsimp only at hSw); go_simp; try with_reducible rfl)
                  case rc12 =>
                  try simp only [Act.put, List.setIfInBounds_toArray, List.set_cons_zero, List.set_cons_succ]
                  refine Dt.quiet (i := 13) (v := ?vc13) rfl rfl (by kernel_rfl) (by kernel_rfl) (by kernel_rfl) ?yc13 ?rc13
                  case yc13 => (intro w hSw; (try dsimp only at hSw); go_simp; try with_reducible rfl)
                  case rc13 =>
                  try simp only [Act.put, List.setIfInBounds_toArray, List.set_cons_zero, List.set_cons_succ]
                  refine Dt.quiet (i := 14) (v := ?vc14) rfl rfl (by kernel_rfl) (by kernel_rfl) (by kernel_rfl) ?yc14 ?rc14
                  case yc14 => (intro w hSw; (try dsimp only at hSw); go_simp; try with_reducible rfl)
                  case rc14 =>
                  try simp only [Act.put, List.setIfInBounds_toArray, List.set_cons_zero, List.set_cons_succ]
                  refine Dt.quiet (i := 15) (v := ?vc15) rfl rfl (by kernel_rfl) (by kernel_rfl) (by kernel_rfl) ?yc15 ?rc15
                  case yc15 => (intro w hSw; (try dsimp only at hSw); go_simp; try with_reducible rfl)
                  case rc15 =>
                  try simp only [Act.put, List.setIfInBounds_toArray, List.set_cons_zero, List.set_cons_succ]
                  refine Dt.quiet (i := 16) (v := ?vc16) rfl rfl (by kernel_rfl) (by kernel_rfl) (by kernel_rfl) ?yc16 ?rc16
                  case yc16 => (intro w hSw; (try dsimp only at hSw); go_simp; try with_reducible rfl)
                  case rc16 =>
                  try simp only [Act.put, List.setIfInBounds_toArray, List.set_cons_zero, List.set_cons_succ]
                  refine Dt.quiet (i := 17) (v := ?vc17) rfl rfl (by kernel_rfl) (by kernel_rfl) (by kernel_rfl) ?yc17 ?rc17
                  case yc17 => (intro w hSw; (try dsimp only at hSw); go_simp; try with_reducible rfl)
                  case rc17 =>
                  try simp only [Act.put, List.setIfInBounds_toArray, List.set_cons_zero, List.set_cons_succ]
                  refine Dt.quiet (i := 18) (v := ?vc18) rfl rfl (by kernel_rfl) (by kernel_rfl) (by kernel_rfl) ?yc18 ?rc18
                  case yc18 => (intro w hSw; (try dsimp only at hSw); go_simp; try with_reducible rfl)
                  case rc18 =>
                  try simp only [Act.put, List.setIfInBounds_toArray, List.set_cons_zero, List.set_cons_succ]
                  refine Dt.quiet (i := 19) (v := ?vc19) rfl rfl (by kernel_rfl) (by kernel_rfl) (by kernel_rfl) ?yc19 ?rc19
                  case yc19 => (intro w hSw; (try dsimp only at hSw); go_simp; try with_reducible rfl)
                  case rc19 =>
                  try simp only [Act.put, List.setIfInBounds_toArray, List.set_cons_zero, List.set_cons_succ]
                  refine Dt.act (i := 20) (v := ?vc20) rfl rfl (by kernel_rfl) (by kernel_rfl) (by kernel_rfl) ?yc20 ?rc20
                  case yc20 => (intro w K hSw hK; (try dsimp only at hSw); go_simp; refine Calls.mono (HC1.out _ hSw.1) ?_; rintro e w1 ⟨rfl, hb⟩; refine ⟨_, rfl, hK.out _ _ ?_ (HKEEPc.out _ (below_to hSw.1 hb))⟩; with_reducible rfl)
                  case rc20 =>
                  try simp only [Act.put, List.setIfInBounds_toArray, List.set_cons_zero, List.set_cons_succ]
                  refine Dt.quiet (i := 21) (v := ?vc21) rfl rfl (by kernel_rfl) (by kernel_rfl) (by kernel_rfl) ?yc21 ?rc21
                  case yc21 => (intro w hSw; (try dsimp only at hSw); go_simp; try with_reducible rfl)
                  case rc21 =>
                  try simp only [Act.put, List.setIfInBounds_toArray, List.set_cons_zero, List.set_cons_succ]
                  refine Dt.quiet (i := 22) (v := ?vc22) rfl rfl (by kernel_rfl) (by kernel_rfl) (by kernel_rfl) ?yc22 ?rc22
                  case yc22 => (intro w hSw; (try dsimp only at hSw); go_simp; try with_reducible rfl)
                  case rc22 =>
                  try simp only [Act.put, List.setIfInBounds_toArray, List.set_cons_zero, List.set_cons_succ]
                  refine Dt.act (i := 23) (v := ?vc23) rfl rfl (by kernel_rfl) (by kernel_rfl) (by kernel_rfl) ?yc23 ?rc23
                  case yc23 => (intro w K hSw hK; (try dsimp only at hSw); go_simp; refine Calls.mono (HC2.out _ hSw.1) ?_; rintro e w1 ⟨rfl, hb⟩; refine ⟨_, rfl, hK.out _ _ ?_ (HKEEPc.out _ (below_to hSw.1 hb))⟩; with_reducible rfl)
                  case rc23 =>
                  try simp only [Act.put, List.setIfInBounds_toArray, List.set_cons_zero, List.set_cons_succ]
                  refine Dt.quiet (i := 24) (v := ?vc24) rfl rfl (by kernel_rfl) (by kernel_rfl) (by kernel_rfl) ?yc24 ?rc24
                  case yc24 => (intro w hSw; (try dsimp only at hSw); go_simp; try with_reducible rfl)
                  case rc24 =>
                  try simp only [Act.put, List.setIfInBounds_toArray, List.set_cons_zero, List.set_cons_succ]
                  refine Dt.quiet (i := 25) (v := ?vc25) rfl rfl (by kernel_rfl) (by kernel_rfl) (by kernel_rfl) ?yc25 ?rc25
                  case yc25 => (intro w hSw; (try dsimp only at hSw); go_simp; try with_reducible rfl)
                  case rc25 =>
                  try simp only [Act.put, List.setIfInBounds_toArray, List.set_cons_zero, List.set_cons_succ]
                  refine Dt.done (by kernel_rfl) (by kernel_rfl) ?_
                  intro wzc hSzc
                  have HBZ := hid (below_to HBK.out hSzc.1)
                  clear hSzc
                  go_wp2_with fail
                  go_ret2
                  have e1 : F = [] := by rw [HF.out, HNO.out]; rfl
                  have e2 : D = false := by rw [HD.out, HNO.out]
                  rw [e1, e2]
                  exact retL_none _ _ (below_to HB2.out (below_to HBEL.out HBZ.out))
              · obtain rfl : k = cn := by omega
                go_wp2_with fail
                go_roundw
                case rel => exact ⟨p + 1, by omega, by go_num, hid (by rw [okTab, HOK.out, HOR.out]; rfl), HBK.out⟩
                case measure => simp [intOf]; omega
          · obtain rfl : p = j := by omega
            go_wp2_with fail
            go_ret2
            have e1 : F = tabOf S cn p := by rw [HF.out, HOK.out, if_pos rfl, ← HS.out]
            have e2 : D = true := by rw [HD.out, HOK.out]
            have e3 : F.length = z := by rw [e1, tabOf_len, HZ.out]
            rw [e3, e2, e1]
            exact ⟨_, cap1, rfl, (HOB.out.below HBP.out).mono (by have := HB2.out.size; omega) (by have := HBP.out.size; omega), below_to HB2.out (below_to HBEL.out HBP.out)⟩
theorem potFF_len (r c : Int) (xs ys : List Int) : (potFF r c xs ys).length ≤ 1048576 := by
  unfold potFF
  split
  · rename_i h
    rw [tabOf_len]
    unfold potD at h
    rw [Bool.and_eq_true] at h
    obtain ⟨rn, cn, rfl, rfl, hr1, hr2, hc1, hc2, -⟩ := validG_parts h.1
    have := mul36 hr2 hc2
    simp only [Int.toNat_natCast]
    omega
  · simp
theorem bothPot (r c : Int) (hr : (Lit.int .i64 r).wf = true) (hc : (Lit.int .i64 c).wf = true) (la : Nat) (xs : List Int) (hla : la ≤ 1048576) (hx : ∀ n ∈ xs, (Lit.int .i64 n).wf = true) (lb : Nat) (ys : List Int) (hlb : lb ≤ 1048576) (hy : ∀ n ∈ ys, (Lit.int .i64 n).wf = true) :
    ∃ F n D, n ≤ 1048576 ∧ ∀ a ca b cb w, SlV (Value.int .i64) w a la xs → SlV (Value.int .i64) w b lb ys →
      Calls Try.prog 56 #[.agg #[.int .i64 r, .int .i64 c, .slice a la ca, .slice b lb cb]] w (RetL F n D w) ∧ Calls Try.prog 57 #[.agg #[.int .i64 r, .int .i64 c, .slice a la ca, .slice b lb cb]] w (RetL F n D w) :=
  ⟨_, _, _, potFF_len r c xs ys, fun a ca b cb w h g => ⟨spPot r c a la ca xs b lb cb ys w h g hla hlb, imPot r c a la ca xs b lb cb ys w h g hla hlb⟩⟩
end TryWalk
end Go.Proofs.Ytlbmmecjiopbbaa
