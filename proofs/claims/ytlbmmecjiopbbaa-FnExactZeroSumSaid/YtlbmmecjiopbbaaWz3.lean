/- Games: a table in which the second one loses what the first one gains: one answer on both sides; marks on it. No condition. -/
import Derived.Test.YtlbmmecjiopbbaaWz2
namespace Go.Proofs.Ytlbmmecjiopbbaa
open Go.RowKit Flo Sl Pg
set_option linter.unusedVariables false
set_option linter.unusedSimpArgs false
namespace TryWalk
theorem bothZero (r c : Int) (len : Nat) (xs : List Int) (hl : len ≤ 1048576) : ∃ (R C : Int) (n : Nat) (A B : List Int) (D : Bool), n ≤ 1048576 ∧ ∀ (p : Addr) (cap : Nat) (w : World), SlV (Value.int .i64) w (some p) len xs →
    Calls Try.prog 42 #[.int .i64 r, .int .i64 c, .slice (some p) len cap] w (RetZ R C n A B D w) ∧ Calls Try.prog 44 #[.int .i64 r, .int .i64 c, .slice (some p) len cap] w (RetZ R C n A B D w) := by
  cases hv : validG r c xs (negs xs) with
  | false => exact ⟨0, 0, 0, [], [], false, by omega, fun p cap w h => ⟨(spZero r c p len cap xs w h hl false hv).mono fun e w' h => by simpa [RetZB] using h, imZeroNo r c p len cap xs w h hl hv⟩⟩
  | true => exact ⟨r, c, len, xs, negs xs, true, hl, fun p cap w h => ⟨(spZero r c p len cap xs w h hl true hv).mono fun e w' h => by simpa [RetZB] using h, imZeroYes r c p len cap xs w h hl hv⟩⟩
set_option maxHeartbeats 400000 in
theorem markG2 (r : Int) (c : Int) (lo md hi : Nat) (a : Option Addr) (la ca : Nat) (xs : List Int) (b : Option Addr) (lb cb : Nat) (ys : List Int) (k : Nat) (w : World) (h : OwB lo md w a la xs) (g : OwB md hi w b lb ys) (hmd : md ≤ w.heap.size) (hhi : hi ≤ w.heap.size) (hlm : lo ≤ md) (hmh : md ≤ hi) (hla : la ≤ 1048576) (hlb : lb ≤ 1048576) (hk : k ≤ 8388608) : Calls Try.prog 47 #[.agg #[.int .i64 r, .int .i64 c, .slice a la ca, .slice b lb cb], .int .i64 k] w fun e w' => e = .returned (.int .i64 ((k + la + lb : Nat) : Int)) ∧ Mid lo hi w w' ∧ OwB lo md w' a la (iota k la) ∧ OwB md hi w' b lb (iota (k + la) lb) := by
  have bw : Below w.heap.size w (w.alloc (.cells #[.int .i64 r, .int .i64 c, .slice a la ca, .slice b lb cb] 44)) := Below.alloc (Below.refl _ _) (Nat.le_refl _) _
  have hbox : Box (w.alloc (.cells #[.int .i64 r, .int .i64 c, .slice a la ca, .slice b lb cb] 44)) w.heap.size [.int .i64 r, .int .i64 c, .slice a la ca, .slice b lb cb] := Box.new _ _ _
  have HB := hid bw
  have HX := hid hbox
  have HA := hid (markI lo md a la ca xs k _ (h.below bw) hla (by omega))
  have HG := hid (g.below bw)
  clear bw hbox h g
  go_enter Try.func47, Try.ntmps47
  go_wp2_with fail
  refine HA.out.mono ?_
  rintro e w1 ⟨rfl, o1, m1⟩
  have HO1 := hid o1
  have HBX := hid (HX.out.mid m1 (.inr hmd))
  have f1 := (HBX.out.2 3 _ rfl).1
  have HG1 := hid (HG.out.mid m1 (.inr (Nat.le_refl _)))
  have HM := hid ((Mid.of_below (lo := lo) (hi := hi) HB.out).trans (m1.mono (Nat.le_refl _) hmh))
  clear m1 o1
  obtain ⟨s, hs⟩ : ∃ s, k + la = s := ⟨_, rfl⟩
  rw [hs]
  have hs2 : s ≤ 16777216 := by omega
  have HSS := hid hs
  clear hs
  go_wp2_with fail
  refine (markI md hi b lb cb ys s _ HG1.out hlb (by omega)).mono ?_
  rintro e w2 ⟨rfl, o2, m2⟩
  have HO2 := hid o2
  have HO12 := hid (HO1.out.mid m2 (.inl (Nat.le_refl _)))
  have HM2 := hid (HM.out.trans (m2.mono hlm (Nat.le_refl _)))
  clear m2 o2
  go_wp2_with fail
  go_ret
  exact ⟨by rw [HSS.out]; rfl, HM2.out, HO12.out, by rw [HSS.out]; exact HO2.out⟩
set_option maxHeartbeats 400000 in
theorem heldG (r : Int) (c : Int) (a : Option Addr) (la ca : Nat) (b : Option Addr) (lb cb : Nat) (k : Nat) (w : World) (h : SlV (Value.int .i64) w a la (iota k la)) (g : SlV (Value.int .i64) w b lb (iota (k + la) lb)) (hla : la ≤ 1048576) (hlb : lb ≤ 1048576) (hk : k ≤ 8388608) : Calls Try.prog 48 #[.agg #[.int .i64 r, .int .i64 c, .slice a la ca, .slice b lb cb], .int .i64 k] w fun e w' => e = .returned (.int .i64 ((k + la + lb : Nat) : Int)) ∧ Below w.heap.size w w' := by
  have bw : Below w.heap.size w (w.alloc (.cells #[.int .i64 r, .int .i64 c, .slice a la ca, .slice b lb cb] 44)) := Below.alloc (Below.refl _ _) (Nat.le_refl _) _
  have HB := hid bw
  have HA := hid (heldI a la ca k _ (h.below bw) hla (by omega))
  obtain ⟨s, hs⟩ : ∃ s, k + la = s := ⟨_, rfl⟩
  rw [hs] at g
  have HSS := hid hs
  have hs2 : s ≤ 16777216 := by omega
  have HG := hid (heldI b lb cb s _ (g.below bw) hlb (by omega))
  clear bw h g
  go_enter Try.func48, Try.ntmps48
  go_wp2_with fail
  refine HA.out.mono ?_
  rintro e w' ⟨rfl, rfl⟩
  rw [hs]
  clear hs
  go_wp2_with fail
  refine HG.out.mono ?_
  rintro e w' ⟨rfl, rfl⟩
  obtain ⟨t, ht⟩ : ∃ t, s + lb = t := ⟨_, rfl⟩
  rw [ht]
  have HT := hid ht
  clear ht
  go_wp2_with fail
  go_ret
  exact ⟨by rw [HSS.out, HT.out]; rfl, HB.out⟩
end TryWalk
end Go.Proofs.Ytlbmmecjiopbbaa
