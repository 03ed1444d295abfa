/- Games: the safe row. No condition. -/
import Derived.Test.YtlbmmecjiopbbaaWg8
import Derived.Test.YtlbmmecjiopbbaaPg1
namespace Go.Proofs.Ytlbmmecjiopbbaa
open Go.RowKit Flo Sl Pg
set_option linter.unusedVariables false
namespace TryWalk
/-- A call in a quiet region, met where draws lie behind. -/
theorem quiet_at {P : Program} {f : FuncId} {args : Array Value} {w : World} {n2 x : Nat} {v : Value} (h : Calls P f args (w.drewN (n2 + x)) fun e w' => e = .returned v ∧ w' = w.drewN (n2 + x)) : Calls P f args (w.drewN (n2 + x)) fun e w'' => e = .returned v ∧ ∃ n, w'' = w.drewN (n2 + n) :=
  h.mono fun _ _ ⟨he, hm⟩ => ⟨he, x, hm⟩
theorem quiet_at2 {P : Program} {f : FuncId} {args : Array Value} {w : World} {n2 x : Nat} {v : Value} (h : Calls P f args (w.drewN (n2 + x)) fun e w' => e = .returned v ∧ ∃ m, w' = (w.drewN (n2 + x)).drewN m) : Calls P f args (w.drewN (n2 + x)) fun e w'' => e = .returned v ∧ ∃ n, w'' = w.drewN (n2 + n) :=
  h.mono fun _ _ ⟨he, m, hm⟩ => ⟨he, x + m, by rw [hm, World.drewN_drewN, Nat.add_assoc]⟩
theorem l00Min (a b : Int) (w : World) : Calls Try.prog 123 #[.int .i64 a, .int .i64 b] w fun e w' => e = .returned (.int .i64 (min a b)) ∧ w' = w := by
  by_cases h : a < b
  · rw [Int.min_eq_left (by omega)]
    go_enter Try.func123, Try.ntmps123
    go_wp2_with fail
    go_ret
    exact ⟨rfl, rfl⟩
  · rw [Int.min_eq_right (by omega)]
    go_enter Try.func123, Try.ntmps123
    go_wp2_with fail
    go_ret
    exact ⟨rfl, rfl⟩
/-- The rows' least values. -/
def rowMin (xs : List Int) (cn : Nat) (i : Nat) : Int := mnF (fun k => at2 xs cn i k) (cn - 1)
theorem idx_lt {i k rn cn : Nat} (h1 : i < rn) (h2 : k < cn) : i * cn + k < rn * cn := by
  have : (i + 1) * cn ≤ rn * cn := Nat.mul_le_mul_right _ h1
  rw [Nat.succ_mul] at this
  omega
theorem mul36 {i cn : Nat} (h1 : i ≤ 6) (h2 : cn ≤ 6) : i * cn ≤ 36 := Nat.mul_le_mul h1 h2
set_option maxHeartbeats 2000000 in
theorem spSafe (rn cn : Nat) (a : Option Addr) (la ca : Nat) (xs : List Int) (b : Option Addr) (lb cb : Nat) (k : Nat) (w : World) (hr1 : 1 ≤ rn) (hr2 : rn ≤ 6) (hc1 : 1 ≤ cn) (hc2 : cn ≤ 6) (hla : la = rn * cn) (hbox : Box w k [.int .i64 rn, .int .i64 cn, .slice a la ca, .slice b lb cb]) (h : SlV (Value.int .i64) w a la xs) : Calls Try.prog 94 #[.pointer (some ⟨k, 0, none⟩)] w fun e w' => e = .returned (.tuple #[.int .i64 (topF (rowMin xs cn) rn).1, .int .i64 (topF (rowMin xs cn) rn).2]) ∧ ∃ n, w' = w.drewN n := by
  have f0 := (hbox.2 0 _ rfl).1
  have f1 := (hbox.2 1 _ rfl).1
  have f2 := (hbox.2 2 _ rfl).1
  clear hbox
  have hl36 : la ≤ 36 := by rw [hla]; exact mul36 hr2 hc2
  have H := hid h
  have HLA := hid hla
  clear h hla
  have hl0 : 0 < la := by rw [HLA.out]; exact Nat.mul_pos hr1 hc1
  obtain ⟨b1, off, rfl, hb1, hc⟩ := H.out.2 hl0
  have HC := hid hc
  clear hc
  obtain ⟨g, hg⟩ : ∃ g, rowMin xs cn = g := ⟨_, rfl⟩
  rw [hg]
  have HG := hid hg
  clear hg
  go_enter Try.func94, Try.ntmps94
  go_wp2_with fail
  go_loopw [4, 5, 6, 7, 8] (fun bb m i l q wr => ∃ j n : Nat, j ≤ rn ∧ i = .int .i64 j ∧ bb = .int .i64 (topF g j).1 ∧ m = .int .i64 (topF g j).2 ∧ wr = w.drewN n) (fun _ _ i _ _ _ => rn - (intOf i).toNat)
  case atStart => exact ⟨0, 0, Nat.zero_le _, rfl, rfl, rfl, rfl⟩
  case round =>
    obtain ⟨j, n, hj, rfl, rfl, rfl, rfl⟩ := hrel
    by_cases hlt : j < rn
    · obtain ⟨z, hz⟩ : ∃ z, j * cn = z := ⟨_, rfl⟩
      have hz36 : z ≤ 36 := by rw [← hz]; exact mul36 (by omega) hc2
      have hzi : (j : Int) * (cn : Int) = (z : Int) := by rw [← hz]; push_cast; rfl
      have hzb : z + cn ≤ la := by
        have := idx_lt hlt (show cn - 1 < cn by omega)
        have := HLA.out; omega
      have hzw : IntKind.i64.wrap (z : Int) = (z : Int) := IntWalk.i64_in _ (by omega)
      have HZ := hid hz
      clear hz
      have hd0 : w.cell? ⟨b1, off + z, none⟩ = some (.int .i64 (xs.getD z 0)) := HC.out z (by omega)
      obtain ⟨B, hB⟩ : ∃ B, (topF g j).1 = B := ⟨_, rfl⟩
      obtain ⟨M, hM⟩ : ∃ M, (topF g j).2 = M := ⟨_, rfl⟩
      have HB := hid hB
      have HM := hid hM
      rw [hB, hM]
      clear hB hM
      obtain ⟨v0, hv0⟩ : ∃ v, xs.getD z 0 = v := ⟨_, rfl⟩
      rw [hv0] at hd0
      have HV0 := hid hv0
      clear hv0
      have hi0 : (0 : Int) ≤ (z : Int) := by omega
      have hi1 : (z : Int) < (la : Int) := by omega
      go_wp2_with fail
      go_quiet (fail)
      go_wp2_with fail
      go_loopw [7, 8] (fun l q wr => ∃ p n : Nat, 1 ≤ p ∧ p ≤ cn ∧ q = .int .i64 p ∧ l = .int .i64 (mnF (fun k => at2 xs cn j k) (p - 1)) ∧ wr = w.drewN n) (fun _ q _ => cn - (intOf q).toNat)
      case atStart => exact ⟨1, n + nq, Nat.le_refl _, hc1, rfl, by rw [show 1 - 1 = 0 from rfl, mnF, at2, HZ.out, Nat.add_zero, HV0.out], by rw [World.drewN_drewN]⟩
      case round =>
        obtain ⟨p, n2, hp1, hp2, rfl, rfl, rfl⟩ := hrel
        obtain ⟨L, hL⟩ : ∃ L, mnF (fun k => at2 xs cn j k) (p - 1) = L := ⟨_, rfl⟩
        rw [hL]
        have HL := hid hL
        clear hL
        by_cases hp : p < cn
        · obtain ⟨s, hs⟩ : ∃ s, z + p = s := ⟨_, rfl⟩
          have hs1 : s < la := by omega
          have hsi : (z : Int) + (p : Int) = (s : Int) := by rw [← hs]; push_cast; rfl
          have hsw : IntKind.i64.wrap (s : Int) = (s : Int) := IntWalk.i64_in _ (by omega)
          have HS := hid hs
          clear hs
          have hd1 : w.cell? ⟨b1, off + s, none⟩ = some (.int .i64 (xs.getD s 0)) := HC.out s hs1
          obtain ⟨v1, hv1⟩ : ∃ v, xs.getD s 0 = v := ⟨_, rfl⟩
          rw [hv1] at hd1
          have HV1 := hid hv1
          clear hv1
          have hi2 : (0 : Int) ≤ (s : Int) := by omega
          have hi3 : (s : Int) < (la : Int) := by omega
          go_wp2_with fail
          go_quiet ((go_at_call 123; exact quiet_at (l00Min _ _ _)))
          go_wp2_with fail
          go_roundw
          case rel => exact ⟨p + 1, _, by omega, by omega, by go_num, by
            have e : mnF (fun k => at2 xs cn j k) (p + 1 - 1) = min (mnF (fun k => at2 xs cn j k) (p - 1)) (at2 xs cn j p) := by
              obtain ⟨q, rfl⟩ : ∃ q, p = q + 1 := ⟨p - 1, by omega⟩
              rfl
            rw [e, HL.out, at2, HZ.out, HS.out, HV1.out], rfl⟩
          case measure => simp [intOf]; omega
        · obtain rfl : p = cn := by omega
          have hgj : Hid (g j = L) := hid (by rw [← HG.out, ← HL.out]; rfl)
          by_cases hup : j = 0 ∨ M < L
          · have ht : Hid (topF g (j + 1) = ((j : Int), L)) := hid (by rw [topF, HM.out, hgj.out, if_pos hup])
            rcases hup with h0 | h0
            · have h0b : ((j : Int) == 0) = true := by simp; omega
              go_wp2_with fail
              go_roundw
              case rel => exact ⟨j + 1, _, by omega, by go_num, by rw [ht.out], by rw [ht.out], rfl⟩
              case measure => simp [intOf]; omega
            · by_cases hj0 : j = 0
              · have h0b : ((j : Int) == 0) = true := by simp; omega
                go_wp2_with fail
                go_roundw
                case rel => exact ⟨j + 1, _, by omega, by go_num, by rw [ht.out], by rw [ht.out], rfl⟩
                case measure => simp [intOf]; omega
              · have h0b : ((j : Int) == 0) = false := by simp; omega
                go_wp2_with fail
                go_roundw
                case rel => exact ⟨j + 1, _, by omega, by go_num, by rw [ht.out], by rw [ht.out], rfl⟩
                case measure => simp [intOf]; omega
          · have ht : Hid (topF g (j + 1) = topF g j) := hid (by rw [topF, HM.out, hgj.out, if_neg hup])
            have h0b : ((j : Int) == 0) = false := by simp; omega
            have h0c : ¬ M < L := by omega
            go_wp2_with fail
            go_roundw
            case rel => exact ⟨j + 1, _, by omega, by go_num, by rw [ht.out, HB.out], by rw [ht.out, HM.out], rfl⟩
            case measure => simp [intOf]; omega
    · obtain rfl : j = rn := by omega
      go_wp2_with fail
      go_ret2
      exact ⟨rfl, _, rfl⟩
theorem slPart {w : World} {b off la : Nat} {xs : List Int} (h : SlV (Value.int .i64) w (some ⟨b, off, none⟩) la xs) {i n : Nat} (hn : i + n ≤ la) : SlV (Value.int .i64) w (some ⟨b, off + i, none⟩) n ((List.range n).map fun k => xs.getD (i + k) 0) := by
  refine ⟨by simp, fun h0 => ?_⟩
  obtain ⟨b1, o1, ha, hb, hc⟩ := h.2 (by omega)
  obtain ⟨rfl, rfl⟩ : b = b1 ∧ off = o1 := by
    injection ha with h; injection h with h1 h2 h3; exact ⟨h1, h2⟩
  refine ⟨b, off + i, rfl, hb, fun k hk => ?_⟩
  rw [Nat.add_assoc, hc (i + k) (by omega)]
  congr 2
  rw [List.getD_eq_getElem?_getD (l := List.map _ _), List.getElem?_map, List.getElem?_range hk]
  rfl
theorem range_getD {f : Nat → Int} {n k : Nat} (h : k < n) : ((List.range n).map f).getD k 0 = f k := by
  rw [List.getD_eq_getElem?_getD, List.getElem?_map, List.getElem?_range h]; rfl
theorem mnF_congr {f g : Nat → Int} {n : Nat} (h : ∀ k, k ≤ n → f k = g k) : mnF f n = mnF g n := by
  induction n with
  | zero => exact h 0 (Nat.le_refl _)
  | succ n ih => rw [mnF, mnF, ih (fun k hk => h k (by omega)), h (n + 1) (Nat.le_refl _)]
set_option maxHeartbeats 1000000 in
theorem slMin (a : Option Addr) (len cap : Nat) (xs : List Int) (w : World) (h : SlV (Value.int .i64) w a len xs) (h0 : 0 < len) (hl : len ≤ 1048576) : Calls Try.prog 124 #[.slice a len cap] w fun e w' => e = .returned (.int .i64 (mnF (fun k => xs.getD k 0) (len - 1))) ∧ w' = w := by
  have H := hid h
  clear h
  obtain ⟨b1, off, rfl, hb1, hc⟩ := H.out.2 h0
  have HC := hid hc
  clear hc
  have hd0 : w.cell? ⟨b1, off, none⟩ = some (.int .i64 (xs.getD 0 0)) := HC.out 0 h0
  obtain ⟨v0, hv0⟩ : ∃ v, xs.getD 0 0 = v := ⟨_, rfl⟩
  rw [hv0] at hd0
  have HV0 := hid hv0
  clear hv0
  go_enter Try.func124, Try.ntmps124
  go_wp2_with fail
  go_loopw [3, 4] (fun m i wr => ∃ p : Nat, 1 ≤ p ∧ p ≤ len ∧ i = .int .i64 p ∧ m = .int .i64 (mnF (fun k => xs.getD k 0) (p - 1)) ∧ wr = w) (fun _ i _ => len - (intOf i).toNat)
  case atStart => exact ⟨1, Nat.le_refl _, h0, rfl, by rw [show 1 - 1 = 0 from rfl, mnF, HV0.out], rfl⟩
  case round =>
    obtain ⟨p, hp1, hp2, rfl, rfl, rfl⟩ := hrel
    obtain ⟨L, hL⟩ : ∃ L, mnF (fun k => xs.getD k 0) (p - 1) = L := ⟨_, rfl⟩
    rw [hL]
    have HL := hid hL
    clear hL
    by_cases hp : p < len
    · have hd1 : wr.cell? ⟨b1, off + p, none⟩ = some (.int .i64 (xs.getD p 0)) := HC.out p hp
      obtain ⟨v1, hv1⟩ : ∃ v, xs.getD p 0 = v := ⟨_, rfl⟩
      rw [hv1] at hd1
      have HV1 := hid hv1
      clear hv1
      have e : mnF (fun k => xs.getD k 0) (p + 1 - 1) = min L v1 := by
        obtain ⟨q, rfl⟩ : ∃ q, p = q + 1 := ⟨p - 1, by omega⟩
        rw [← HL.out, ← HV1.out]; rfl
      have HE := hid e
      clear e
      by_cases hle : v1 < L
      · have hm : min L v1 = v1 := Int.min_eq_right (by omega)
        rw [hm] at HE
        clear hm
        go_wp2_with fail
        go_roundw
        case rel => exact ⟨p + 1, by omega, by omega, by go_num, by rw [HE.out], by first | rfl | trivial⟩
        case measure => simp [intOf]; omega
      · have hm : min L v1 = L := Int.min_eq_left (by omega)
        rw [hm] at HE
        clear hm
        go_wp2_with fail
        go_roundw
        case rel => exact ⟨p + 1, by omega, by omega, by go_num, by rw [HE.out], by first | rfl | trivial⟩
        case measure => simp [intOf]; omega
    · obtain rfl : p = len := by omega
      go_wp2_with fail
      go_ret
      exact ⟨by rw [HL.out]; rfl, rfl⟩
set_option maxHeartbeats 2000000 in
theorem imSafe (rn cn : Nat) (a : Option Addr) (la ca : Nat) (xs : List Int) (b : Option Addr) (lb cb : Nat) (w : World) (hr1 : 1 ≤ rn) (hr2 : rn ≤ 6) (hc1 : 1 ≤ cn) (hc2 : cn ≤ 6) (hla : la = rn * cn) (hca : la ≤ ca) (h : SlV (Value.int .i64) w a la xs) : Calls Try.prog 95 #[.agg #[.int .i64 rn, .int .i64 cn, .slice a la ca, .slice b lb cb]] w fun e w' => e = .returned (.tuple #[.int .i64 (topF (rowMin xs cn) rn).1, .int .i64 (topF (rowMin xs cn) rn).2]) ∧ Below w.heap.size w w' := by
  have bw : Below w.heap.size w (w.alloc (.cells #[.int .i64 rn, .int .i64 cn, .slice a la ca, .slice b lb cb] 44)) := Below.alloc (Below.refl _ _) (Nat.le_refl _) _
  have BW := hid bw
  have hbox : Box (w.alloc (.cells #[.int .i64 rn, .int .i64 cn, .slice a la ca, .slice b lb cb] 44)) w.heap.size [.int .i64 rn, .int .i64 cn, .slice a la ca, .slice b lb cb] := Box.new _ _ _
  have HBOX := hid hbox
  clear bw hbox
  have hl36 : la ≤ 36 := by rw [hla]; exact mul36 hr2 hc2
  have H := hid h
  have HLA := hid hla
  clear h hla
  have hl0 : 0 < la := by rw [HLA.out]; exact Nat.mul_pos hr1 hc1
  obtain ⟨g, hg⟩ : ∃ g, rowMin xs cn = g := ⟨_, rfl⟩
  rw [hg]
  have HG := hid hg
  clear hg
  go_enter Try.func95, Try.ntmps95
  go_wp2_with fail
  go_loopw [4, 5, 6, 7, 10] (fun bb m x l i wr => ∃ j : Nat, j ≤ rn ∧ i = .int .i64 j ∧ bb = .int .i64 (topF g j).1 ∧ m = .int .i64 (topF g j).2 ∧ wr = (w.alloc (.cells #[.int .i64 rn, .int .i64 cn, .slice a la ca, .slice b lb cb] 44))) (fun _ _ _ _ i _ => rn - (intOf i).toNat)
  case atStart => exact ⟨0, Nat.zero_le _, rfl, rfl, rfl, rfl⟩
  case round =>
    obtain ⟨j, hj, rfl, rfl, rfl, hwr⟩ := hrel
    have hbox : Box wr w.heap.size [.int .i64 rn, .int .i64 cn, .slice a la ca, .slice b lb cb] := by rw [hwr]; exact HBOX.out
    have hs : SlV (Value.int .i64) wr a la xs := by rw [hwr]; exact H.out.below BW.out
    have HWR := hid hwr
    clear hwr
    have f0 := (hbox.2 0 _ rfl).1
    have f1 := (hbox.2 1 _ rfl).1
    have f2 := (hbox.2 2 _ rfl).1
    clear hbox
    have HS := hid hs
    clear hs
    obtain ⟨B, hB⟩ : ∃ B, (topF g j).1 = B := ⟨_, rfl⟩
    obtain ⟨M, hM⟩ : ∃ M, (topF g j).2 = M := ⟨_, rfl⟩
    have HB := hid hB
    have HM := hid hM
    rw [hB, hM]
    clear hB hM
    by_cases hlt : j < rn
    · obtain ⟨b1, off, rfl, hb1, -⟩ := HS.out.2 hl0
      obtain ⟨z, hz⟩ : ∃ z, j * cn = z := ⟨_, rfl⟩
      obtain ⟨z2, hz2⟩ : ∃ z2, z + cn = z2 := ⟨_, rfl⟩
      have hz36 : z ≤ 36 := by rw [← hz]; exact mul36 (by omega) hc2
      have hzi : (j : Int) * (cn : Int) = (z : Int) := by rw [← hz]; push_cast; rfl
      have hzi2 : ((j : Int) + 1) * (cn : Int) = (z2 : Int) := by rw [← hz2, Int.add_mul, hzi]; push_cast; omega
      have hzb : z2 ≤ la := by
        have := idx_lt hlt (show cn - 1 < cn by omega)
        have := HLA.out; omega
      have hzw : IntKind.i64.wrap (z : Int) = (z : Int) := IntWalk.i64_in _ (by omega)
      have hzw2 : IntKind.i64.wrap (z2 : Int) = (z2 : Int) := IntWalk.i64_in _ (by omega)
      have hzle : z ≤ z2 := by omega
      have hzca : z2 ≤ ca := by omega
      have hzd : z2 - z = cn := by omega
      have HZ := hid hz
      have HZ2 := hid hz2
      clear hz hz2
      have hp := slPart HS.out (i := z) (n := cn) (by have := HZ2.out; omega)
      have hm : Calls Try.prog 124 #[.slice (some ⟨b1, off + z, none⟩) cn (ca - z)] wr fun e w' => e = .returned (.int .i64 (g j)) ∧ w' = wr := by
        have := slMin (some ⟨b1, off + z, none⟩) cn (ca - z) _ wr hp hc1 (by omega)
        have e : mnF (fun k => ((List.range cn).map fun k => xs.getD (z + k) 0).getD k 0) (cn - 1) = g j := by
          rw [← HG.out, rowMin]
          apply mnF_congr
          intro k hk
          rw [range_getD (by omega), at2, HZ.out]
        rw [e] at this
        exact this
      obtain ⟨L, hL⟩ : ∃ L, g j = L := ⟨_, rfl⟩
      have hgj := hid hL
      rw [hL] at hm
      clear hL hp
      have HMIN := hid hm
      clear hm
      go_wp2_with fail
      refine HMIN.out.mono ?_
      rintro e w' ⟨rfl, rfl⟩
      by_cases hj0 : j = 0
      · have h0b : ((j : Int) == 0) = true := by simp; omega
        have ht : Hid (topF g (j + 1) = ((j : Int), L)) := hid (by rw [topF, HM.out, hgj.out, if_pos (.inl hj0)])
        go_wp2_with fail
        go_roundw
        case rel => exact ⟨j + 1, by omega, by go_num, by rw [ht.out, hj0]; rfl, by rw [ht.out], HWR.out⟩
        case measure => simp [intOf]; omega
      · have h0b : ((j : Int) == 0) = false := by simp; omega
        by_cases hup : M < L
        · have ht : Hid (topF g (j + 1) = ((j : Int), L)) := hid (by rw [topF, HM.out, hgj.out, if_pos (.inr hup)])
          go_wp2_with fail
          go_roundw
          case rel => exact ⟨j + 1, by omega, by go_num, by rw [ht.out], by rw [ht.out], HWR.out⟩
          case measure => simp [intOf]; omega
        · have ht : Hid (topF g (j + 1) = topF g j) := hid (by rw [topF, HM.out, hgj.out, if_neg (by omega)])
          go_wp2_with fail
          go_roundw
          case rel => exact ⟨j + 1, by omega, by go_num, by rw [ht.out, HB.out], by rw [ht.out, HM.out], HWR.out⟩
          case measure => simp [intOf]; omega
    · obtain rfl : j = rn := by omega
      go_wp2_with fail
      go_ret2
      exact ⟨by rw [HB.out, HM.out]; rfl, by rw [HWR.out]; exact BW.out⟩
/-- What a valid game says of its numbers. -/
theorem validG_parts {r c : Int} {xs ys : List Int} (h : validG r c xs ys = true) : ∃ rn cn : Nat, r = rn ∧ c = cn ∧ 1 ≤ rn ∧ rn ≤ 6 ∧ 1 ≤ cn ∧ cn ≤ 6 ∧ xs.length = rn * cn ∧ ys.length = rn * cn ∧ (∀ n ∈ xs, -1000 ≤ n ∧ n ≤ 1000) ∧ (∀ n ∈ ys, -1000 ≤ n ∧ n ≤ 1000) := by
  unfold validG gainsB inB at h
  simp only [Bool.and_eq_true, decide_eq_true_eq, List.all_eq_true] at h
  obtain ⟨⟨⟨⟨h1, h2⟩, h3, h4⟩, h5, h6⟩, h7, h8⟩ := h
  obtain ⟨rn, rfl⟩ := Int.eq_ofNat_of_zero_le (show 0 ≤ r by omega)
  obtain ⟨cn, rfl⟩ := Int.eq_ofNat_of_zero_le (show 0 ≤ c by omega)
  exact ⟨rn, cn, rfl, rfl, by omega, by omega, by omega, by omega, by exact_mod_cast h5, by exact_mod_cast h7, h6, h8⟩
def RetV3 (a b : Int) (d : Bool) (w : World) (e : Ending) (w' : World) : Prop := e = .returned (.tuple #[.int .i64 a, .int .i64 b, .bool d]) ∧ Below w.heap.size w w'
set_option maxHeartbeats 1000000 in
theorem spSafeRow (r c : Int) (a : Option Addr) (la ca : Nat) (xs : List Int) (b : Option Addr) (lb cb : Nat) (ys : List Int) (w : World) (h : SlV (Value.int .i64) w a la xs) (g : SlV (Value.int .i64) w b lb ys) (hla : la ≤ 1048576) (hlb : lb ≤ 1048576) : Calls Try.prog 51 #[.agg #[.int .i64 r, .int .i64 c, .slice a la ca, .slice b lb cb]] w (if validG r c xs ys then RetV3 (topF (rowMin xs c.toNat) r.toNat).1 (topF (rowMin xs c.toNat) r.toNat).2 true w else RetV3 0 0 false w) := by
  have bw : Below w.heap.size w (w.alloc (.cells #[.int .i64 r, .int .i64 c, .slice a la ca, .slice b lb cb] 44)) := Below.alloc (Below.refl _ _) (Nat.le_refl _) _
  have hbox : Box (w.alloc (.cells #[.int .i64 r, .int .i64 c, .slice a la ca, .slice b lb cb] 44)) w.heap.size [.int .i64 r, .int .i64 c, .slice a la ca, .slice b lb cb] := Box.new _ _ _
  have HIS := hid (l02Is r c a la ca xs b lb cb ys _ _ hbox (h.below bw) (g.below bw) hla hlb)
  cases hv : validG r c xs ys with
  | false =>
    rw [if_neg (by simp)]
    rw [hv] at HIS
    go_enter Try.func51, Try.ntmps51
    go_wp2_with fail
    refine HIS.out.mono ?_
    rintro e w' ⟨rfl, n, rfl⟩
    go_wp2_with fail
    go_ret3
    exact ⟨rfl, below_drewN bw n⟩
  | true =>
    rw [if_pos rfl]
    rw [hv] at HIS
    obtain ⟨rn, cn, rfl, rfl, hr1, hr2, hc1, hc2, h5, h7, h6, h8⟩ := validG_parts hv
    have HSF := fun n => hid (spSafe rn cn a la ca xs b lb cb w.heap.size _ hr1 hr2 hc1 hc2 (by rw [← h.1]; exact h5) (hbox.dr n) ((h.below bw).drewN n))
    clear h5 h6 h7 h8 hv hbox h g
    simp only [Int.toNat_natCast]
    obtain ⟨T, hT⟩ : ∃ T, topF (rowMin xs cn) rn = T := ⟨_, rfl⟩
    rw [hT] at HSF
    rw [hT]
    clear hT
    obtain ⟨T1, T2⟩ := T
    go_enter Try.func51, Try.ntmps51
    go_wp2_with fail
    refine HIS.out.mono ?_
    rintro e w' ⟨rfl, n, rfl⟩
    go_wp2_with fail
    refine (HSF n).out.mono ?_
    rintro e w' ⟨rfl, n2, rfl⟩
    go_wp2_with fail
    go_ret3
    exact ⟨rfl, below_drewN bw (n + n2)⟩
set_option maxHeartbeats 1000000 in
theorem imSafeRow (r c : Int) (a : Option Addr) (la ca : Nat) (xs : List Int) (b : Option Addr) (lb cb : Nat) (ys : List Int) (w : World) (h : SlV (Value.int .i64) w a la xs) (g : SlV (Value.int .i64) w b lb ys) (hla : la ≤ 1048576) (hlb : lb ≤ 1048576) (hca : la ≤ ca) : Calls Try.prog 52 #[.agg #[.int .i64 r, .int .i64 c, .slice a la ca, .slice b lb cb]] w (if validG r c xs ys then RetV3 (topF (rowMin xs c.toNat) r.toNat).1 (topF (rowMin xs c.toNat) r.toNat).2 true w else RetV3 0 0 false w) := by
  have bw : Below w.heap.size w (w.alloc (.cells #[.int .i64 r, .int .i64 c, .slice a la ca, .slice b lb cb] 44)) := Below.alloc (Below.refl _ _) (Nat.le_refl _) _
  have hbox : Box (w.alloc (.cells #[.int .i64 r, .int .i64 c, .slice a la ca, .slice b lb cb] 44)) w.heap.size [.int .i64 r, .int .i64 c, .slice a la ca, .slice b lb cb] := Box.new _ _ _
  have HIS := hid (imValidG r c a la ca xs b lb cb ys _ (h.below bw) (g.below bw) hla hlb)
  cases hv : validG r c xs ys with
  | false =>
    rw [if_neg (by simp)]
    rw [hv] at HIS
    go_enter Try.func52, Try.ntmps52
    go_wp2_with fail
    refine HIS.out.mono ?_
    rintro e w1 ⟨rfl, b1⟩
    have bw1 := below_to bw b1
    go_wp2_with fail
    go_ret3
    exact ⟨rfl, bw1⟩
  | true =>
    rw [if_pos rfl]
    rw [hv] at HIS
    obtain ⟨rn, cn, rfl, rfl, hr1, hr2, hc1, hc2, h5, h7, h6, h8⟩ := validG_parts hv
    have HSF := fun (w' : World) (hb : Below w.heap.size w w') => hid (imSafe rn cn a la ca xs b lb cb w' hr1 hr2 hc1 hc2 (by rw [← h.1]; exact h5) hca (h.below hb))
    clear h5 h6 h7 h8 hv h g
    simp only [Int.toNat_natCast]
    obtain ⟨T, hT⟩ : ∃ T, topF (rowMin xs cn) rn = T := ⟨_, rfl⟩
    rw [hT] at HSF
    rw [hT]
    clear hT
    obtain ⟨T1, T2⟩ := T
    have HBX := hid hbox
    clear hbox
    go_enter Try.func52, Try.ntmps52
    go_wp2_with fail
    refine HIS.out.mono ?_
    rintro e w1 ⟨rfl, b1⟩
    have bx := HBX.out.below b1
    have f0 := (bx.2 0 _ rfl).1
    have f1 := (bx.2 1 _ rfl).1
    have f2 := (bx.2 2 _ rfl).1
    have f3 := (bx.2 3 _ rfl).1
    have bw1 := below_to bw b1
    clear bx b1
    go_wp2_with fail
    refine (HSF _ bw1).out.mono ?_
    rintro e w2 ⟨rfl, b2⟩
    have bw2 := below_to bw1 b2
    clear b2
    go_wp2_with fail
    go_ret3
    exact ⟨rfl, bw2⟩
theorem bothSafeRow (r : Int) (c : Int) (_ : (Lit.int .i64 r).wf = true) (_ : (Lit.int .i64 c).wf = true) (la : Nat) (xs : List Int) (hla : la ≤ 1048576) (_ : ∀ n ∈ xs, (Lit.int .i64 n).wf = true) (lb : Nat) (ys : List Int) (hlb : lb ≤ 1048576) (_ : ∀ n ∈ ys, (Lit.int .i64 n).wf = true) :
    ∃ (F0 F1 : Int) (F2 : Bool), ∀ (a : Option Addr) (b : Option Addr) (w : World), SlV (Value.int .i64) w a la xs → SlV (Value.int .i64) w b lb ys →
      Calls Try.prog 51 #[.agg #[.int .i64 r, .int .i64 c, .slice a la la, .slice b lb lb]] w (RetV3 F0 F1 F2 w) ∧ Calls Try.prog 52 #[.agg #[.int .i64 r, .int .i64 c, .slice a la la, .slice b lb lb]] w (RetV3 F0 F1 F2 w) := by
  cases hv : validG r c xs ys with
  | false =>
    refine ⟨0, 0, false, fun a b w h g => ⟨?_, ?_⟩⟩
    · have := spSafeRow r c a la la xs b lb lb ys w h g hla hlb
      rw [if_neg (by simp [hv])] at this; exact this
    · have := imSafeRow r c a la la xs b lb lb ys w h g hla hlb (Nat.le_refl _)
      rw [if_neg (by simp [hv])] at this; exact this
  | true =>
    refine ⟨(topF (rowMin xs c.toNat) r.toNat).1, (topF (rowMin xs c.toNat) r.toNat).2, true, fun a b w h g => ⟨?_, ?_⟩⟩
    · have := spSafeRow r c a la la xs b lb lb ys w h g hla hlb
      rw [if_pos hv] at this; exact this
    · have := imSafeRow r c a la la xs b lb lb ys w h g hla hlb (Nat.le_refl _)
      rw [if_pos hv] at this; exact this
set_option maxHeartbeats 4000000 in
theorem fnExactSafeRow (p00 : Int) (p01 : Int) (a00 : Option Addr) (l00 c00 : Nat) (x00 : List Int) (a01 : Option Addr) (l01 c01 : Nat) (x01 : List Int) (w : World) (hwp00 : (Lit.int .i64 p00).wf = true) (hwp01 : (Lit.int .i64 p01).wf = true) (hra00 : IsRow .i64 w a00 l00 c00 x00) (hra01 : IsRow .i64 w a01 l01 c01 x01) : Calls Try.prog 11 #[.agg #[.int .i64 p00, .int .i64 p01, .slice a00 l00 c00, .slice a01 l01 c01]] w (RetD true w) := by
  obtain ⟨hsa00, hva00, hma00⟩ := hra00
  have HSa00 := hid hsa00
  have HVa00 := hid hva00
  clear hsa00 hva00
  obtain ⟨hsa01, hva01, hma01⟩ := hra01
  have HSa01 := hid hsa01
  have HVa01 := hid hva01
  clear hsa01 hva01
  have HWp00 := hid hwp00
  clear hwp00
  have HWp01 := hid hwp01
  clear hwp01
  go_enter Try.func11, Try.ntmps11
  go_wp2_with fail
  refine (szGAny p00 p01 a00 l00 c00 a01 l01 c01 1048576 _ (Nat.le_refl _) hma00 hma01).mono ?_
  rintro e w1 ⟨r, rfl, b1, (⟨rfl, h1⟩ | ⟨rfl, h1⟩)⟩
  · have bw1 : Below w.heap.size w w1 := below_to (by repeat (first | exact Below.refl _ _ | with_reducible assumption | refine Below.alloc ?_ (by simp <;> omega) _)) b1
    go_wp2_with fail
    go_ret
    exact ⟨rfl, bw1⟩
  have bw1 : Below w.heap.size w w1 := below_to (by repeat (first | exact Below.refl _ _ | with_reducible assumption | refine Below.alloc ?_ (by simp <;> omega) _)) b1
  have bx0 : Box w1 (w.heap.size) [.int .i64 p00, .int .i64 p01, .slice a00 l00 c00, .slice a01 l01 c01] := (show Box _ (w.heap.size) _ from by simpa using Box.new w [.int .i64 p00, .int .i64 p01, .slice a00 l00 c00, .slice a01 l01 c01] 41).below b1
  have hla00 : l00 ≤ 1048576 := by omega
  have hla01 : l01 ≤ 1048576 := by omega
  obtain ⟨m1, hm1⟩ : ∃ m, 1048576 - (l00 + l01) = m := ⟨_, rfl⟩
  have hmm1 : m1 ≤ 1048576 := by omega
  rw [hm1]
  clear b1 h1 hm1
  obtain ⟨F0, F1, F2, hboth⟩ := bothSafeRow p00 p01 HWp00.out HWp01.out l00 x00 hla00 HVa00.out l01 x01 hla01 HVa01.out
  have HBOTH := hid hboth
  clear hboth
  have hFF0 : (F0 != F0) = false := by simp
  have hFF1 : (F1 != F1) = false := by simp
  have hFF2 : (F2 != F2) = false := by simp
  have f0 := (bx0.2 0 _ rfl).1
  have f1 := (bx0.2 1 _ rfl).1
  have f2 := (bx0.2 2 _ rfl).1
  have f3 := (bx0.2 3 _ rfl).1
  go_upto_region 5 with (fail)
  go_cut [4, 5, 6] (fun sv4 sv5 sv6 wx => sv4 = .int .i64 F0 ∧ sv5 = .int .i64 F1 ∧ sv6 = .bool F2 ∧ Box wx (w.heap.size) [.int .i64 p00, .int .i64 p01, .slice a00 l00 c00, .slice a01 l01 c01] ∧ Below w.heap.size w wx)
  case first =>
    go_wp2_with fail
    refine (toG p00 p01 a00 l00 c00 x00 a01 l01 c01 x01 _ (HSa00.out.below bw1) (HSa01.out.below bw1) hla00 hla01).mono ?_
    rintro e wa ⟨Aa00, Aa01, rfl, sa00, sa01, ba⟩
    have bx0 := bx0.below ba
    have bwa : Below w.heap.size w wa := below_to bw1 ba
    clear f0 f1 f2 f3
    have f0 := (bx0.2 0 _ rfl).1
    have f1 := (bx0.2 1 _ rfl).1
    have f2 := (bx0.2 2 _ rfl).1
    have f3 := (bx0.2 3 _ rfl).1
    go_wp2_with fail
    refine (HBOTH.out _ _ _ sa00 sa01).1.mono ?_
    rintro e wb ⟨rfl, bb⟩
    have bx0 := bx0.below bb
    have bwb : Below w.heap.size w wb := below_to bwa bb
    go_wp2_with fail
    go_meet
    exact ⟨rfl, rfl, rfl, bx0, bwb⟩
  case rest =>
    obtain ⟨rfl, rfl, rfl, bx0, bc⟩ := hcut
    have f0 := (bx0.2 0 _ rfl).1
    have f1 := (bx0.2 1 _ rfl).1
    have f2 := (bx0.2 2 _ rfl).1
    have f3 := (bx0.2 3 _ rfl).1
    go_wp2_with fail
    refine (toG p00 p01 a00 l00 c00 x00 a01 l01 c01 x01 _ (HSa00.out.below bc) (HSa01.out.below bc) hla00 hla01).mono ?_
    rintro e wy0 ⟨Ba00, Ba01, rfl, ta00, ta01, b⟩
    clear f0 f1 f2 f3
    have bx0 := bx0.below b
    have by0 : Below w.heap.size w wy0 := below_to bc b
    clear b
    have hal : Below wy0.heap.size wy0 (wy0.alloc (.cells #[.int .i64 p00, .int .i64 p01, .slice Ba00 l00 l00, .slice Ba01 l01 l01] 44)) := Below.alloc (Below.refl _ _) (Nat.le_refl _) _
    have bx0 := bx0.below hal
    have ex0 : Box (wy0.alloc (.cells #[.int .i64 p00, .int .i64 p01, .slice Ba00 l00 l00, .slice Ba01 l01 l01] 44)) wy0.heap.size [.int .i64 p00, .int .i64 p01, .slice Ba00 l00 l00, .slice Ba01 l01 l01] := Box.new _ _ _
    have ta00 := ta00.below hal
    have ta01 := ta01.below hal
    have byl0 : Below w.heap.size w (wy0.alloc (.cells #[.int .i64 p00, .int .i64 p01, .slice Ba00 l00 l00, .slice Ba01 l01 l01] 44)) := below_to by0 hal
    clear hal
    go_wp2_with fail
    refine (HBOTH.out _ _ _ ta00 ta01).2.mono ?_
    rintro e wi ⟨rfl, b⟩
    have bx0 := bx0.below b
    have ex0 := ex0.below b
    have ta00 := ta00.below b
    have ta01 := ta01.below b
    have bi : Below w.heap.size w wi := below_to byl0 b
    clear b
    have f0 := (bx0.2 0 _ rfl).1
    have f1 := (bx0.2 1 _ rfl).1
    have f2 := (bx0.2 2 _ rfl).1
    have f3 := (bx0.2 3 _ rfl).1
    have g0 := (ex0.2 0 _ rfl).1
    have g1 := (ex0.2 1 _ rfl).1
    have g2 := (ex0.2 2 _ rfl).1
    have g3 := (ex0.2 3 _ rfl).1
    go_upto_region 10 with (fail)
    go_cut [48] (fun sv wx => sv = .bool false ∧ Box wx (w.heap.size) [.int .i64 p00, .int .i64 p01, .slice a00 l00 c00, .slice a01 l01 c01] ∧ Below w.heap.size w wx)
    case first =>
      go_region_with (first
        | (go_at_call 35
           refine (toG p00 p01 a00 l00 c00 x00 a01 l01 c01 x01 _ (HSa00.out.below bi.drew) (HSa01.out.below bi.drew) hla00 hla01).mono ?_
           rintro e we ⟨Ea00, Ea01, rfl, ua00, ua01, b⟩
           have bx0 := (Box.d1 bx0).below b
           have ex0 := (Box.d1 ex0).below b
           have ta00 := (ta00.below (Below.refl _ _).drew).below b
           have ta01 := (ta01.below (Below.refl _ _).drew).below b
           have be : Below w.heap.size w we := below_to bi.drew b
           have f0 := (bx0.2 0 _ rfl).1
           have f1 := (bx0.2 1 _ rfl).1
           have f2 := (bx0.2 2 _ rfl).1
           have f3 := (bx0.2 3 _ rfl).1
           have g0 := (ex0.2 0 _ rfl).1
           have g1 := (ex0.2 1 _ rfl).1
           have g2 := (ex0.2 2 _ rfl).1
           have g3 := (ex0.2 3 _ rfl).1)
        | (go_at_call 37
           refine (eqGSelf p00 p01 _ _ l00 _ _ x00 _ _ l01 _ _ x01 _ ta00 ua00 hla00 ta01 ua01 hla01).mono ?_
           rintro e wf ⟨rfl, b⟩
           have bx0 := bx0.below b
           have bf : Below w.heap.size w wf := below_to be b))
      all_goals (go_wp2_with fail; go_meet; exact ⟨rfl, bx0, bf⟩)
    case rest =>
    clear f0 f1 f2 f3
    clear g0 g1 g2 g3
    clear bx0 ex0 ta00 ta01
    obtain ⟨rfl, bx0, bk0⟩ := hcut
    go_wp2_with fail
    go_ret
    exact ⟨rfl, bk0⟩
end TryWalk
end Go.Proofs.Ytlbmmecjiopbbaa
