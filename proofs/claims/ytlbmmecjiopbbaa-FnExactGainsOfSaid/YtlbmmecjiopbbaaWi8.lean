/- Games: the potential: the reference's side. No condition. -/
import Derived.Test.YtlbmmecjiopbbaaWp1
import Derived.Test.YtlbmmecjiopbbaaPg3
import Derived.Test.YtlbmmecjiopbbaaDt
namespace Go.Proofs.Ytlbmmecjiopbbaa
open Go.RowKit Flo Sl Pg
set_option linter.unusedVariables false
set_option linter.unusedSimpArgs false
attribute [local go_sem ↓] Go.wp_at_zero Go.wp_at_succ
attribute [local go_sem] Dt.uponV_value Dt.uponV_skip Dt.uponV_enter
namespace TryWalk
def potD (r c : Int) (xs ys : List Int) : Bool := validG r c xs ys && okTab xs ys c.toNat r.toNat
def potFF (r c : Int) (xs ys : List Int) : List Int := if potD r c xs ys then tabOf (potI xs ys c.toNat) c.toNat r.toNat else []
theorem at_in {xs : List Int} {i : Nat} (h : ∀ n ∈ xs, -1000 ≤ n ∧ n ≤ 1000) (hi : i < xs.length) : -1000 ≤ xs.getD i 0 ∧ xs.getD i 0 ≤ 1000 := h _ (getD_mem hi)
theorem cellB {W w' : World} {p : Addr} {v : Value} (hb : Below W.heap.size W w') (h : W.cell? p = some v) : w'.cell? p = some v := (hb.cell (block_lt h)).trans h
theorem potS_bd {xs ys : List Int} {la lb c i k n : Nat} (hx : ∀ i, i < la → -1000 ≤ xs.getD i 0 ∧ xs.getD i 0 ≤ 1000) (hy : ∀ i, i < lb → -1000 ≤ ys.getD i 0 ∧ ys.getD i 0 ≤ 1000) (hla : la = n * c) (hlb : lb = n * c) (hi : i < n) (hk : k < c) : -4000 ≤ potS xs ys c i k ∧ potS xs ys c i k ≤ 4000 := by
  have h1 := idx_lt hi hk
  have h2 := idx_lt hi (show 0 < c by omega)
  have h3 := idx_lt (show 0 < n by omega) (show 0 < c by omega)
  have q1 := hx _ (show i * c + 0 < la by omega)
  have q2 := hx _ (show 0 * c + 0 < la by omega)
  have q3 := hy _ (show i * c + k < lb by omega)
  have q4 := hy _ (show i * c + 0 < lb by omega)
  unfold potS at2
  omega
set_option maxRecDepth 100000 in
set_option maxHeartbeats 8000000 in
theorem spPot (r c : Int) (a : Option Addr) (la ca : Nat) (xs : List Int) (b : Option Addr) (lb cb : Nat) (ys : List Int) (w : World) (h : SlV (Value.int .i64) w a la xs) (g : SlV (Value.int .i64) w b lb ys) (hla : la ≤ 1048576) (hlb : lb ≤ 1048576) : Calls Try.prog 56 #[.agg #[.int .i64 r, .int .i64 c, .slice a la ca, .slice b lb cb]] w (RetL (potFF r c xs ys) (potFF r c xs ys).length (potD r c xs ys) w) := by
  have bw : Below w.heap.size w (w.alloc (.cells #[.int .i64 r, .int .i64 c, .slice a la ca, .slice b lb cb] 44)) := Below.alloc (Below.refl _ _) (Nat.le_refl _) _
  have hbox : Box (w.alloc (.cells #[.int .i64 r, .int .i64 c, .slice a la ca, .slice b lb cb] 44)) w.heap.size [.int .i64 r, .int .i64 c, .slice a la ca, .slice b lb cb] := Box.new _ _ _
  have HIS := hid (l02Is r c a la ca xs b lb cb ys _ _ hbox (h.below bw) (g.below bw) hla hlb)
  cases hv : validG r c xs ys with
  | false =>
    have e2 : potD r c xs ys = false := by simp [potD, hv]
    have e1 : potFF r c xs ys = [] := by simp [potFF, e2]
    rw [e1, e2]
    rw [hv] at HIS
    go_enter Try.func56, Try.ntmps56
    go_wp2_with fail
    refine HIS.out.mono ?_
    rintro e w' ⟨rfl, n, rfl⟩
    go_wp2_with fail
    go_ret2
    exact retL_none _ _ (below_drewN bw n)
  | true =>
    rw [hv] at HIS
    obtain ⟨rn, cn, rfl, rfl, hr1, hr2, hc1, hc2, h5, h7, h6, h8⟩ := validG_parts hv
    have HLA : Hid (la = rn * cn) := hid (by rw [← h.1]; exact h5)
    have HLB : Hid (lb = rn * cn) := hid (by rw [← g.1]; exact h7)
    have hl36 : la ≤ 36 := by rw [HLA.out]; exact mul36 hr2 hc2
    have hlb36 : lb ≤ 36 := by rw [HLB.out]; exact mul36 hr2 hc2
    have hl0 : 0 < la := by rw [HLA.out]; exact Nat.mul_pos hr1 hc1
    have hlb0 : 0 < lb := by rw [HLB.out]; exact Nat.mul_pos hr1 hc1
    have HX6 := hid (show ∀ i, i < la → -1000 ≤ xs.getD i 0 ∧ xs.getD i 0 ≤ 1000 from fun i hi => at_in h6 (by rw [h.1]; exact hi))
    have HY6 := hid (show ∀ i, i < lb → -1000 ≤ ys.getD i 0 ∧ ys.getD i 0 ≤ 1000 from fun i hi => at_in h8 (by rw [g.1]; exact hi))
    have e2 : potD rn cn xs ys = okTab xs ys cn rn := by rw [potD, hv]; rfl
    have e1 : potFF rn cn xs ys = if okTab xs ys cn rn then tabOf (potI xs ys cn) cn rn else [] := by rw [potFF, e2]; rfl
    obtain ⟨F, hF⟩ : ∃ F, potFF rn cn xs ys = F := ⟨_, rfl⟩
    obtain ⟨D, hD⟩ : ∃ D, potD rn cn xs ys = D := ⟨_, rfl⟩
    have HF : Hid (F = if okTab xs ys cn rn then tabOf (potI xs ys cn) cn rn else []) := hid (by rw [← hF]; exact e1)
    have HD : Hid (D = okTab xs ys cn rn) := hid (by rw [← hD]; exact e2)
    rw [hF, hD]
    clear hF hD
    have HX := hid hbox
    have HH := hid (h.below bw)
    have HG := hid (g.below bw)
    have HB := hid bw
    clear hv h5 h6 h7 h8 e1 e2 hbox h g bw hla hlb
    obtain ⟨S, hS⟩ : ∃ S, potS xs ys cn = S := ⟨_, rfl⟩
    have HS := hid hS
    clear hS
    go_enter Try.func56, Try.ntmps56
    go_wp2_with fail
    refine HIS.out.mono ?_
    rintro e wq ⟨rfl, n, hwq⟩
    have HX2 : Hid (Box wq w.heap.size [.int .i64 rn, .int .i64 cn, .slice a la ca, .slice b lb cb]) := hid (by rw [hwq]; exact HX.out.dr n)
    have HB2 : Hid (Below w.heap.size w wq) := hid (by rw [hwq]; exact below_drewN HB.out n)
    have HA2 : Hid (SlV (Value.int .i64) wq a la xs) := hid (by rw [hwq]; exact HH.out.drewN n)
    have HG2 : Hid (SlV (Value.int .i64) wq b lb ys) := hid (by rw [hwq]; exact HG.out.drewN n)
    clear hwq
    go_wp2_with fail
    go_loopw [4, 5, 6, 7] (fun v i x y wr => ∃ j z : Nat, j ≤ rn ∧ i = .int .i64 j ∧ Hid (z = j * cn) ∧ wr.ownsRow wq.heap.size 2 1 v z ((tabOf S cn j).map (Value.int .i64)) ∧ Below wq.heap.size wq wr) (fun _ i _ _ _ => rn - (intOf i).toNat)
    case atStart =>
      refine ⟨0, 0, Nat.zero_le _, rfl, hid (by simp), ?_, (Below.refl _ _).alloc (Nat.le_refl _) _⟩
      exact World.ownsRow_made (size := 1) (e := 2) wq #[] 0 (Nat.le_refl _) (by unfold maxLen; omega) rfl
    case round =>
      obtain ⟨j, z, hj, rfl, HZ, hown, hbel⟩ := hrel
      have HOWN := hid hown
      have HBEL := hid hbel
      have hbx := HX2.out.below hbel
      have f0 := (hbx.2 0 _ rfl).1
      have f1 := (hbx.2 1 _ rfl).1
      clear hbx hown hbel
      by_cases hlt : j < rn
      · have hzi : (j : Int) * (cn : Int) = (z : Int) := by rw [HZ.out]; push_cast; rfl
        have hzc : z + cn ≤ la := by
          have h1 : (j + 1) * cn ≤ rn * cn := Nat.mul_le_mul_right _ hlt
          rw [Nat.succ_mul] at h1
          have := HLA.out; have := HZ.out; omega
        have hzw : IntKind.i64.wrap (z : Int) = (z : Int) := IntWalk.i64_in _ (by omega)
        go_wp2_with fail
        go_loopw [4, 7] (fun v y w2 => ∃ k : Nat, k ≤ cn ∧ y = .int .i64 k ∧ w2.ownsRow wq.heap.size 2 1 v (z + k) ((tabOf S cn j ++ rowOf S j k).map (Value.int .i64)) ∧ Below wq.heap.size wq w2) (fun _ y _ => cn - (intOf y).toNat)
        case atStart => exact ⟨0, Nat.zero_le _, rfl, by rw [rowOf, List.append_nil]; exact HOWN.out, HBEL.out⟩
        case round =>
          obtain ⟨k, hk, rfl, hown, hbel⟩ := hrel
          rename World => w2
          have hbx := HX2.out.below hbel
          have HOWK := hid hown
          have HBLK := hid hbel
          clear f0 f1
          have f0 := (hbx.2 0 _ rfl).1
          have f1 := (hbx.2 1 _ rfl).1
          have f2 := (hbx.2 2 _ rfl).1
          have f3 := (hbx.2 3 _ rfl).1
          clear hbx hown hbel
          by_cases hkl : k < cn
          · obtain ⟨b1, o1, rfl, hb1, hcA⟩ := (HA2.out.below HBLK.out).2 hl0
            obtain ⟨b2, o2, rfl, hb2, hcB⟩ := (HG2.out.below HBLK.out).2 hlb0
            obtain ⟨s, hs⟩ : ∃ s, z + k = s := ⟨_, rfl⟩
            have hsl : s < la := by omega
            have hlab : la = lb := by rw [HLA.out, HLB.out]
            have hsi : (z : Int) + (k : Int) = (s : Int) := by rw [← hs]; push_cast; rfl
            have hsw : IntKind.i64.wrap (s : Int) = (s : Int) := IntWalk.i64_in _ (by omega)
            have c1 : w2.cell? ⟨b1, o1 + z, none⟩ = some (.int .i64 (xs.getD z 0)) := hcA z (by omega)
            have c2 : w2.cell? ⟨b1, o1, none⟩ = some (.int .i64 (xs.getD 0 0)) := hcA 0 (by omega)
            have c3 : w2.cell? ⟨b2, o2 + s, none⟩ = some (.int .i64 (ys.getD s 0)) := hcB s (by omega)
            have c4 : w2.cell? ⟨b2, o2 + z, none⟩ = some (.int .i64 (ys.getD z 0)) := hcB z (by omega)
            have q1 := HX6.out z (by omega)
            have q2 := HX6.out 0 (by omega)
            have q3 := HY6.out s (by omega)
            have q4 := HY6.out z (by omega)
            have HV : Hid (S j k = xs.getD z 0 - xs.getD 0 0 + ys.getD s 0 - ys.getD z 0) := hid (by
              rw [← HS.out, potS, at2, at2, at2, at2, ← HZ.out, hs, Nat.zero_mul, Nat.add_zero, Nat.add_zero])
            generalize xs.getD z 0 = A1 at *
            generalize xs.getD 0 0 = A0 at *
            generalize ys.getD s 0 = B1 at *
            generalize ys.getD z 0 = B0 at *
            obtain ⟨d1, hd1⟩ : ∃ d, A1 - A0 = d := ⟨_, rfl⟩
            obtain ⟨d2, hd2⟩ : ∃ d, d1 + B1 = d := ⟨_, rfl⟩
            obtain ⟨d3, hd3⟩ : ∃ d, d2 - B0 = d := ⟨_, rfl⟩
            have t1 : IntKind.i64.wrap d1 = d1 := IntWalk.i64_in _ (by omega)
            have t2 : IntKind.i64.wrap d2 = d2 := IntWalk.i64_in _ (by omega)
            have t3 : IntKind.i64.wrap d3 = d3 := IntWalk.i64_in _ (by omega)
            have i1 : (0 : Int) ≤ (s : Int) := by omega
            have i2 : (s : Int) < (lb : Int) := by omega
            have i3 : (z : Int) < (la : Int) := by omega
            have i4 : (z : Int) < (lb : Int) := by omega
            have i5 : (0 : Int) ≤ (z : Int) := by omega
            have i6 : (0 : Int) < (la : Int) := by omega
            have HV2 : Hid (S j k = d3) := hid (by rw [HV.out, hd1, hd2, hd3])
            have hzk : Hid (z + k = s) := hid hs
            have hs20 : s ≤ 1000 := by omega
            clear HV q1 q2 q3 q4 hcA hcB hs hlab
            go_wp2_with fail
            have HKEEPa : Hid (∀ w', Below w2.heap.size w2 w' → Below w2.heap.size w2 w' ∧ w'.cell? ⟨w.heap.size, 2, none⟩ = some (.slice (some ⟨b1, o1, none⟩) la ca) ∧ w'.cell? ⟨w.heap.size, 3, none⟩ = some (.slice (some ⟨b2, o2, none⟩) lb cb) ∧ w'.cell? ⟨b1, o1 + z, none⟩ = some (.int .i64 A1) ∧ w'.cell? ⟨b1, o1, none⟩ = some (.int .i64 A0) ∧ w'.cell? ⟨b2, o2 + s, none⟩ = some (.int .i64 B1) ∧ w'.cell? ⟨b2, o2 + z, none⟩ = some (.int .i64 B0)) := hid (fun w' hb => ⟨hb, cellB hb f2, cellB hb f3, cellB hb c1, cellB hb c2, cellB hb c3, cellB hb c4⟩)
            refine Dt.start (n := 28) (by kernel_rfl) (by kernel_rfl) ?_
            refine wpAny_take (i := 0) (v := ?vap0) rfl (by kernel_rfl) (by kernel_rfl) (by kernel_rfl) (fun _ _ _ h => h) (Or.inl ⟨by kernel_rfl, ?yap0⟩) ?rap0
            case yap0 => (intro w; go_simp; try with_reducible rfl)
            case rap0 =>
            try simp only [Act.put, List.setIfInBounds_toArray, List.set_cons_zero, List.set_cons_succ]
            refine Dt.enter (S := fun w' => Below w2.heap.size w2 w' ∧ w'.cell? ⟨w.heap.size, 2, none⟩ = some (.slice (some ⟨b1, o1, none⟩) la ca) ∧ w'.cell? ⟨w.heap.size, 3, none⟩ = some (.slice (some ⟨b2, o2, none⟩) lb cb) ∧ w'.cell? ⟨b1, o1 + z, none⟩ = some (.int .i64 A1) ∧ w'.cell? ⟨b1, o1, none⟩ = some (.int .i64 A0) ∧ w'.cell? ⟨b2, o2 + s, none⟩ = some (.int .i64 B1) ∧ w'.cell? ⟨b2, o2 + z, none⟩ = some (.int .i64 B0)) (T := [25, 26, 27]) (m := 3) (n := 24) (by kernel_rfl) (by kernel_rfl) (by kernel_rfl) (by kernel_rfl) ?aS ?aD
            case aS => (first | exact HKEEPa.out _ (Below.refl _ _).drew | (fail))
            case aD =>
            refine Dt.quiet (i := 1) (v := ?va1) rfl rfl (by kernel_rfl) (by kernel_rfl) (by kernel_rfl) ?ya1 ?ra1
            case ya1 => (intro w hSw; (try dsimp only at hSw); go_simp; try with_reducible rfl)
            case ra1 =>
            try simp only [Act.put, List.setIfInBounds_toArray, List.set_cons_zero, List.set_cons_succ]
            refine Dt.quiet (i := 2) (v := ?va2) rfl rfl (by kernel_rfl) (by kernel_rfl) (by kernel_rfl) ?ya2 ?ra2
            case ya2 => (intro w hSw; (try dsimp only at hSw); go_simp; try with_reducible rfl)
            case ra2 =>
            try simp only [Act.put, List.setIfInBounds_toArray, List.set_cons_zero, List.set_cons_succ]
            refine Dt.quiet (i := 3) (v := ?va3) rfl rfl (by kernel_rfl) (by kernel_rfl) (by kernel_rfl) ?ya3 ?ra3
            case ya3 => (intro w hSw; (try dsimp only at hSw); go_simp; try with_reducible rfl)
            case ra3 =>
            try simp only [Act.put, List.setIfInBounds_toArray, List.set_cons_zero, List.set_cons_succ]
            refine Dt.quiet (i := 4) (v := ?va4) rfl rfl (by kernel_rfl) (by kernel_rfl) (by kernel_rfl) ?ya4 ?ra4
            case ya4 => (intro w hSw; (try dsimp only at hSw); go_simp; try with_reducible rfl)
            case ra4 =>
            try simp only [Act.put, List.setIfInBounds_toArray, List.set_cons_zero, List.set_cons_succ]
            refine Dt.quiet (i := 5) (v := ?va5) rfl rfl (by kernel_rfl) (by kernel_rfl) (by kernel_rfl) ?ya5 ?ra5
            case ya5 => (intro w hSw; (try dsimp only at hSw); go_simp; try with_reducible rfl)
            case ra5 =>
            try simp only [Act.put, List.setIfInBounds_toArray, List.set_cons_zero, List.set_cons_succ]
            refine Dt.quiet (i := 6) (v := ?va6) rfl rfl (by kernel_rfl) (by kernel_rfl) (by kernel_rfl) ?ya6 ?ra6
            case ya6 => (intro w hSw; (try dsimp only at hSw); go_simp; try with_reducible rfl)
            case ra6 =>
            try simp only [Act.put, List.setIfInBounds_toArray, List.set_cons_zero, List.set_cons_succ]
            refine Dt.quiet (i := 7) (v := ?va7) rfl rfl (by kernel_rfl) (by kernel_rfl) (by kernel_rfl) ?ya7 ?ra7
            case ya7 => (intro w hSw; (try dsimp only at hSw); go_simp; try with_reducible rfl)
            case ra7 =>
            try simp only [Act.put, List.setIfInBounds_toArray, List.set_cons_zero, List.set_cons_succ]
            refine Dt.quiet (i := 8) (v := ?va8) rfl rfl (by kernel_rfl) (by kernel_rfl) (by kernel_rfl) ?ya8 ?ra8
            case ya8 => (intro w hSw; (try dsimp only at hSw); go_simp; try with_reducible rfl)
            case ra8 =>
            try simp only [Act.put, List.setIfInBounds_toArray, List.set_cons_zero, List.set_cons_succ]
            refine Dt.quiet (i := 9) (v := ?va9) rfl rfl (by kernel_rfl) (by kernel_rfl) (by kernel_rfl) ?ya9 ?ra9
            case ya9 => (intro w hSw; (try dsimp only at hSw); go_simp; try with_reducible rfl)
            case ra9 =>
            try simp only [Act.put, List.setIfInBounds_toArray, List.set_cons_zero, List.set_cons_succ]
            refine Dt.quiet (i := 10) (v := ?va10) rfl rfl (by kernel_rfl) (by kernel_rfl) (by kernel_rfl) ?ya10 ?ra10
            case ya10 => (intro w hSw; (try dsimp only at hSw); go_simp; try with_reducible rfl)
            case ra10 =>
            try simp only [Act.put, List.setIfInBounds_toArray, List.set_cons_zero, List.set_cons_succ]
            refine Dt.quiet (i := 11) (v := ?va11) rfl rfl (by kernel_rfl) (by kernel_rfl) (by kernel_rfl) ?ya11 ?ra11
            case ya11 => (intro w hSw; (try dsimp only at hSw); go_simp; try with_reducible rfl)
            case ra11 =>
            try simp only [Act.put, List.setIfInBounds_toArray, List.set_cons_zero, List.set_cons_succ]
            refine Dt.quiet (i := 12) (v := ?va12) rfl rfl (by kernel_rfl) (by kernel_rfl) (by kernel_rfl) ?ya12 ?ra12
            case ya12 => (intro w hSw; (try dsimp only at hSw); go_simp; try with_reducible rfl)
            case ra12 =>
            try simp only [Act.put, List.setIfInBounds_toArray, List.set_cons_zero, List.set_cons_succ]
            refine Dt.quiet (i := 13) (v := ?va13) rfl rfl (by kernel_rfl) (by kernel_rfl) (by kernel_rfl) ?ya13 ?ra13
            case ya13 => (intro w hSw; (try dsimp only at hSw); go_simp; try with_reducible rfl)
            case ra13 =>
            try simp only [Act.put, List.setIfInBounds_toArray, List.set_cons_zero, List.set_cons_succ]
            refine Dt.quiet (i := 14) (v := ?va14) rfl rfl (by kernel_rfl) (by kernel_rfl) (by kernel_rfl) ?ya14 ?ra14
            case ya14 => (intro w hSw; (try dsimp only at hSw); go_simp; try with_reducible rfl)
            case ra14 =>
            try simp only [Act.put, List.setIfInBounds_toArray, List.set_cons_zero, List.set_cons_succ]
            refine Dt.quiet (i := 15) (v := ?va15) rfl rfl (by kernel_rfl) (by kernel_rfl) (by kernel_rfl) ?ya15 ?ra15
            case ya15 => (intro w hSw; (try dsimp only at hSw); go_simp; try with_reducible rfl)
            case ra15 =>
            try simp only [Act.put, List.setIfInBounds_toArray, List.set_cons_zero, List.set_cons_succ]
            refine Dt.quiet (i := 16) (v := ?va16) rfl rfl (by kernel_rfl) (by kernel_rfl) (by kernel_rfl) ?ya16 ?ra16
            case ya16 => (intro w hSw; (try dsimp only at hSw); go_simp; try with_reducible rfl)
            case ra16 =>
            try simp only [Act.put, List.setIfInBounds_toArray, List.set_cons_zero, List.set_cons_succ]
            refine Dt.quiet (i := 17) (v := ?va17) rfl rfl (by kernel_rfl) (by kernel_rfl) (by kernel_rfl) ?ya17 ?ra17
            case ya17 => (intro w hSw; (try dsimp only at hSw); go_simp; try with_reducible rfl)
            case ra17 =>
            try simp only [Act.put, List.setIfInBounds_toArray, List.set_cons_zero, List.set_cons_succ]
            refine Dt.quiet (i := 18) (v := ?va18) rfl rfl (by kernel_rfl) (by kernel_rfl) (by kernel_rfl) ?ya18 ?ra18
            case ya18 => (intro w hSw; (try dsimp only at hSw); go_simp; try with_reducible rfl)
            case ra18 =>
            try simp only [Act.put, List.setIfInBounds_toArray, List.set_cons_zero, List.set_cons_succ]
            refine Dt.quiet (i := 19) (v := ?va19) rfl rfl (by kernel_rfl) (by kernel_rfl) (by kernel_rfl) ?ya19 ?ra19
            case ya19 => (intro w hSw; (try dsimp only at hSw); go_simp; try with_reducible rfl)
            case ra19 =>
            try simp only [Act.put, List.setIfInBounds_toArray, List.set_cons_zero, List.set_cons_succ]
            refine Dt.quiet (i := 20) (v := ?va20) rfl rfl (by kernel_rfl) (by kernel_rfl) (by kernel_rfl) ?ya20 ?ra20
            case ya20 => (intro w hSw; (try dsimp only at hSw); go_simp; try with_reducible rfl)
            case ra20 =>
            try simp only [Act.put, List.setIfInBounds_toArray, List.set_cons_zero, List.set_cons_succ]
            refine Dt.quiet (i := 21) (v := ?va21) rfl rfl (by kernel_rfl) (by kernel_rfl) (by kernel_rfl) ?ya21 ?ra21
            case ya21 => (intro w hSw; (try dsimp only at hSw); go_simp; try with_reducible rfl)
            case ra21 =>
            try simp only [Act.put, List.setIfInBounds_toArray, List.set_cons_zero, List.set_cons_succ]
            refine Dt.quiet (i := 22) (v := ?va22) rfl rfl (by kernel_rfl) (by kernel_rfl) (by kernel_rfl) ?ya22 ?ra22
            case ya22 => (intro w hSw; (try dsimp only at hSw); go_simp; try with_reducible rfl)
            case ra22 =>
            try simp only [Act.put, List.setIfInBounds_toArray, List.set_cons_zero, List.set_cons_succ]
            refine Dt.quiet (i := 23) (v := ?va23) rfl rfl (by kernel_rfl) (by kernel_rfl) (by kernel_rfl) ?ya23 ?ra23
            case ya23 => (intro w hSw; (try dsimp only at hSw); go_simp; try with_reducible rfl)
            case ra23 =>
            try simp only [Act.put, List.setIfInBounds_toArray, List.set_cons_zero, List.set_cons_succ]
            refine Dt.quiet (i := 24) (v := ?va24) rfl rfl (by kernel_rfl) (by kernel_rfl) (by kernel_rfl) ?ya24 ?ra24
            case ya24 => (intro w hSw; (try dsimp only at hSw); go_simp; try with_reducible rfl)
            case ra24 =>
            try simp only [Act.put, List.setIfInBounds_toArray, List.set_cons_zero, List.set_cons_succ]
            refine Dt.last 25 (by kernel_rfl) (by kernel_rfl) (by kernel_rfl) ?_
            intro wza hSza
            simp only [List.drop_succ_cons, List.drop_zero]
            have HOWN3 := hid (row_below HOWK.out hSza.1)
            have HBL3 := hid (below_to HBLK.out hSza.1)
            rw [hzk.out] at HOWN3
            clear hSza
            go_wp2_with (at_builtin; refine wpList_appI rfl (.tmp 30) (.tmp 55) rfl wq _ s (tabOf S cn j ++ rowOf S j k) d3 rfl HOWN3.out HBL3.out (by omega) rfl ?_; intro v2 w6 hown1 hb1; have HO1 := hid hown1; have HB1 := hid hb1; clear hown1 hb1)
            go_roundw
            case rel => exact ⟨k + 1, by omega, by go_num, by rw [← Nat.add_assoc, hzk.out, rowOf, HV2.out, ← List.append_assoc]; exact HO1.out, HB1.out⟩
            case measure => simp [intOf]; omega
          · obtain rfl : k = cn := by omega
            go_wp2_with fail
            go_roundw
            case rel => exact ⟨j + 1, z + k, by omega, by go_num, hid (by rw [HZ.out, Nat.succ_mul]), HOWK.out, HBLK.out⟩
            case measure => simp [intOf]; omega
      · obtain rfl : j = rn := by omega
        clear f0 f1
        have HZJ := HZ
        have hzla : z = la := by rw [HZ.out, HLA.out]
        obtain ⟨a1, cap1, hv, hcap, hob⟩ := OwB.of_row HOWN.out
        subst hv
        have HOB := hid hob
        obtain ⟨b3, ha3, -, -, hb3, hcO⟩ := hob.2 (by omega)
        subst ha3
        have HCO : Hid (∀ i, i < z → wr.cell? ⟨b3, i, none⟩ = some (.int .i64 ((tabOf S cn j).getD i 0))) := hid (fun i hi => (hcO i hi).1)
        clear hcO hob
        obtain ⟨b1, o1, rfl, hb1, hcA⟩ := (HA2.out.below HBEL.out).2 hl0
        have HCA := hid hcA
        clear hcA
        have hbx := HX2.out.below HBEL.out
        have f0 := (hbx.2 0 _ rfl).1
        have f1 := (hbx.2 1 _ rfl).1
        have f2 := (hbx.2 2 _ rfl).1
        clear hbx
        rename World => wo
        go_wp2_with fail
        go_loopw [8, 9, 10] (fun i y x wr => ∃ p n : Nat, p ≤ j ∧ i = .int .i64 p ∧ Hid (okTab xs ys cn p = true) ∧ wr = wo.drewN n) (fun i _ _ _ => j - (intOf i).toNat)
        case atStart => exact ⟨0, 0, Nat.zero_le _, rfl, hid rfl, rfl⟩
        case round =>
          obtain ⟨p, n, hp, rfl, HOK, rfl⟩ := hrel
          by_cases hlt2 : p < j
          · obtain ⟨q, hq⟩ : ∃ q, p * cn = q := ⟨_, rfl⟩
            have hqi : (p : Int) * (cn : Int) = (q : Int) := by rw [← hq]; push_cast; rfl
            have hqc : q + cn ≤ la := by
              have h1 : (p + 1) * cn ≤ j * cn := Nat.mul_le_mul_right _ hlt2
              rw [Nat.succ_mul] at h1
              have := HLA.out; omega
            have hqw : IntKind.i64.wrap (q : Int) = (q : Int) := IntWalk.i64_in _ (by omega)
            have HQ := hid hq
            clear hq
            go_wp2_with fail
            go_loopw [9, 10] (fun y x wr => ∃ k m : Nat, k ≤ cn ∧ y = .int .i64 k ∧ Hid (okRow xs ys cn p k = true) ∧ wr = wo.drewN m) (fun y _ _ => cn - (intOf y).toNat)
            case atStart => exact ⟨0, n, Nat.zero_le _, rfl, hid rfl, rfl⟩
            case round =>
              obtain ⟨k, m, hk, rfl, HOR, rfl⟩ := hrel
              by_cases hkl : k < cn
              · obtain ⟨s, hs⟩ : ∃ s, q + k = s := ⟨_, rfl⟩
                have hsl : s < la := by omega
                have hsz : s < z := by omega
                have hsi : (q : Int) + (k : Int) = (s : Int) := by rw [← hs]; push_cast; rfl
                have hsw : IntKind.i64.wrap (s : Int) = (s : Int) := IntWalk.i64_in _ (by omega)
                have c1 : wo.cell? ⟨b3, s, none⟩ = some (.int .i64 (S p k)) := by
                  rw [HCO.out s hsz, ← hs, ← HQ.out, tabOf_get S cn j p k hlt2 hkl]
                have c2 : wo.cell? ⟨b3, k, none⟩ = some (.int .i64 (S 0 k)) := by
                  have := HCO.out k (by omega)
                  have e := tabOf_get S cn j 0 k (by omega) hkl
                  rw [Nat.zero_mul, Nat.zero_add] at e
                  rw [this, e]
                have c3 : wo.cell? ⟨b1, o1 + s, none⟩ = some (.int .i64 (at2 xs cn p k)) := by
                  have := HCA.out s hsl
                  rw [at2, HQ.out, hs]; exact this
                have c4 : wo.cell? ⟨b1, o1 + k, none⟩ = some (.int .i64 (at2 xs cn 0 k)) := by
                  have := HCA.out k (by omega)
                  rw [at2, Nat.zero_mul, Nat.zero_add]; exact this
                have q1 : -4000 ≤ S p k ∧ S p k ≤ 4000 := by rw [← HS.out]; exact potS_bd HX6.out HY6.out HLA.out HLB.out hlt2 hkl
                have q2 : -4000 ≤ S 0 k ∧ S 0 k ≤ 4000 := by rw [← HS.out]; exact potS_bd HX6.out HY6.out HLA.out HLB.out (by omega) hkl
                have q3 : -1000 ≤ at2 xs cn p k ∧ at2 xs cn p k ≤ 1000 := HX6.out _ (by rw [HQ.out, hs]; exact hsl)
                have q4 : -1000 ≤ at2 xs cn 0 k ∧ at2 xs cn 0 k ≤ 1000 := HX6.out _ (by omega)
                have hch := chkS xs ys cn p k
                rw [HS.out] at hch
                obtain ⟨P1, hP1⟩ : ∃ v, S p k = v := ⟨_, rfl⟩
                obtain ⟨P0, hP0⟩ : ∃ v, S 0 k = v := ⟨_, rfl⟩
                obtain ⟨A1, hA1⟩ : ∃ v, at2 xs cn p k = v := ⟨_, rfl⟩
                obtain ⟨A0, hA0⟩ : ∃ v, at2 xs cn 0 k = v := ⟨_, rfl⟩
                have HP1 := hid hP1
                rw [hP1, hP0, hA1, hA0] at hch
                rw [hP1] at c1 q1
                rw [hP0] at c2 q2
                rw [hA1] at c3 q3
                rw [hA0] at c4 q4
                obtain ⟨d1, hd1⟩ : ∃ d, P1 - P0 = d := ⟨_, rfl⟩
                obtain ⟨d2, hd2⟩ : ∃ d, A1 - A0 = d := ⟨_, rfl⟩
                rw [hd1, hd2] at hch
                have t1 : IntKind.i64.wrap d1 = d1 := IntWalk.i64_in _ (by omega)
                have t2 : IntKind.i64.wrap d2 = d2 := IntWalk.i64_in _ (by omega)
                have i1 : (0 : Int) ≤ (s : Int) := by omega
                have i2 : (s : Int) < (la : Int) := by omega
                have i3 : (s : Int) < (z : Int) := by omega
                have i4 : (k : Int) < (la : Int) := by omega
                have i5 : (k : Int) < (z : Int) := by omega
                have i6 : (0 : Int) ≤ (k : Int) := by omega
                have HSS := hid hs
                have HZL := hid hzla
                clear hP1 hP0 hA1 hA0 q1 q2 q3 q4 hs hzla
                by_cases hc : potI xs ys cn p k = P1
                · rw [decide_eq_true hc, Bool.not_true] at hch
                  have HC : Hid (okRow xs ys cn p (k + 1) = true) := hid (by
                    rw [okRow, HOR.out, Bool.true_and, decide_eq_true_iff, HS.out, HP1.out]; exact hc)
                  clear hc
                  go_wp2_with fail
                  go_quiet (fail)
                  go_wp2_with fail
                  go_roundw
                  case rel => exact ⟨k + 1, _, by omega, by go_num, HC, by first | rfl | exact World.drewN_drewN ..⟩
                  case measure => simp [intOf]; omega
                · rw [decide_eq_false hc, Bool.not_false] at hch
                  have HNO : Hid (okTab xs ys cn j = false) := hid (ok_no xs ys cn j p k hlt2 hkl (by rw [HS.out, HP1.out]; exact hc))
                  clear hc
                  go_wp2_with fail
                  go_quiet (fail)
                  go_wp2_with fail
                  go_ret2
                  have e1 : F = [] := by rw [HF.out, HNO.out]; rfl
                  have e2 : D = false := by rw [HD.out, HNO.out]
                  rw [e1, e2]
                  exact retL_none _ _ (below_to HB2.out (below_drewN (below_drewN HBEL.out _) _))
              · obtain rfl : k = cn := by omega
                go_wp2_with fail
                go_roundw
                case rel => exact ⟨p + 1, _, by omega, by go_num, hid (by rw [okTab, HOK.out, HOR.out]; rfl), rfl⟩
                case measure => simp [intOf]; omega
          · obtain rfl : p = j := by omega
            go_wp2_with fail
            go_ret2
            have e1 : F = tabOf S cn p := by rw [HF.out, HOK.out, if_pos rfl, ← HS.out, potF_s xs ys p cn HOK.out]
            have e2 : D = true := by rw [HD.out, HOK.out]
            have e3 : F.length = z := by rw [e1, tabOf_len, HZJ.out]
            rw [e3, e2, e1]
            exact ⟨_, cap1, rfl, (HOB.out.below (below_drewN (Below.refl _ _) _)).mono (by have := HB2.out.size; omega) (Nat.le_refl _), below_to HB2.out (below_drewN HBEL.out _)⟩
end TryWalk
end Go.Proofs.Ytlbmmecjiopbbaa
