/- Games: the law on the best rows. No condition. -/
import Derived.Test.YtlbmmecjiopbbaaWi3
import Derived.Test.YtlbmmecjiopbbaaWh1
namespace Go.Proofs.Ytlbmmecjiopbbaa
open Go.RowKit Flo Sl Pg
set_option linter.unusedVariables false
namespace TryWalk
/-- It returns a list of its own, of n numbers, and a truth value. -/
def RetL (F : List Int) (n : Nat) (d : Bool) (w : World) (e : Ending) (w' : World) : Prop := ∃ a cap, e = .returned (.tuple #[.slice a n cap, .bool d]) ∧ OwB w.heap.size w'.heap.size w' a n F ∧ Below w.heap.size w w'
theorem eqISelf (a b : Option Addr) (l ca cb : Nat) (xs : List Int) (w : World) (h : SlV (Value.int .i64) w a l xs) (g : SlV (Value.int .i64) w b l xs) (hl : l ≤ 1048576) : Calls Try.prog 45 #[.slice a l ca, .slice b l cb] w (RetD true w) :=
  (eqI a b l l ca cb xs xs w h g hl hl).mono fun e w' ⟨he, n, hw⟩ => ⟨by rw [he, decide_eq_true (rfl : xs = xs)], by rw [hw]; exact below_drewN (Below.refl _ _) n⟩
/-- Whether p holds of all numbers below n. -/
def allTo (p : Nat → Bool) : Nat → Bool
  | 0 => true
  | n + 1 => allTo p n && p n
theorem allTo_eq (p : Nat → Bool) (n : Nat) : (List.range n).all p = allTo p n := by
  induction n with
  | zero => rfl
  | succ n ih => rw [List.range_succ, List.all_append, ih]; simp [allTo]
def bestB (f : Nat → Int) (r i : Nat) : Bool := allTo (fun j => decide (f j ≤ f i)) r
theorem gath_best (f : Nat → Int) (r : Nat) (h : 0 < r) : gath (bestB f r) r = bR f r := by
  rw [← sR_eq_bR f r h, gath_eq, sR]
  congr 1
  apply List.filter_congr
  intro i _
  rw [allTo_eq]; rfl
set_option maxHeartbeats 4000000 in
theorem spBest (rn cn : Nat) (a : Option Addr) (la ca : Nat) (xs : List Int) (b : Option Addr) (lb cb : Nat) (kb k : Nat) (w : World) (hr1 : 1 ≤ rn) (hr2 : rn ≤ 6) (hc2 : cn ≤ 6) (hla : la = rn * cn) (hbox : Box w kb [.int .i64 rn, .int .i64 cn, .slice a la ca, .slice b lb cb]) (h : SlV (Value.int .i64) w a la xs) (hk : k < cn) : Calls Try.prog 97 #[.pointer (some ⟨kb, 0, none⟩), .int .i64 k] w fun e w' => ∃ v, e = .returned v ∧ w'.ownsRow w.heap.size 2 1 v (bR (fun i => at2 xs cn i k) rn).length ((bR (fun i => at2 xs cn i k) rn).map (Value.int .i64)) ∧ Below w.heap.size w w' := by
  rw [← gath_best _ _ hr1]
  obtain ⟨f, hf⟩ : ∃ f, (fun i => at2 xs cn i k) = f := ⟨_, rfl⟩
  rw [hf]
  have HF := hid hf
  have HLA := hid hla
  have hl36 : la ≤ 36 := by rw [hla]; exact mul36 hr2 hc2
  have hl0 : 0 < la := by
    have := idx_lt (i := 0) hr1 hk
    rw [hla]; omega
  have HX := hid hbox
  have HS := hid h
  clear hf hbox h hla
  go_enter Try.func97, Try.ntmps97
  go_wp2_with fail
  go_loopw [5, 6, 7, 8] (fun v i x y wr => ∃ j : Nat, j ≤ rn ∧ i = .int .i64 j ∧ wr.ownsRow w.heap.size 2 1 v (gath (bestB f rn) j).length ((gath (bestB f rn) j).map (Value.int .i64)) ∧ Below w.heap.size w wr) (fun _ i _ _ _ => rn - (intOf i).toNat)
  case atStart =>
    refine ⟨0, Nat.zero_le _, rfl, ?_, (Below.refl _ _).alloc (Nat.le_refl _) _⟩
    exact World.ownsRow_made (size := 1) (e := 2) w #[] 0 (Nat.le_refl _) (by unfold maxLen; omega) rfl
  case round =>
    obtain ⟨j, hj, rfl, hown, hbel⟩ := hrel
    have HOWN := hid hown
    have HBEL := hid hbel
    obtain ⟨b1, off, rfl, hb1, hc⟩ := (HS.out.below hbel).2 hl0
    have HC := hid hc
    have hbx := HX.out.below hbel
    have f0 := (hbx.2 0 _ rfl).1
    have f1 := (hbx.2 1 _ rfl).1
    have f2 := (hbx.2 2 _ rfl).1
    obtain ⟨a1, cap1, rfl, hcap, hob⟩ := OwB.of_row hown
    clear hown hbel hob hbx hc
    have hlen := gath_len (bestB f rn) j
    obtain ⟨n, hn⟩ : ∃ n, (gath (bestB f rn) j).length = n := ⟨_, rfl⟩
    have hn6 : n ≤ 6 := by omega
    rw [hn]
    have HN := hid hn
    clear hlen hn
    by_cases hlt : j < rn
    · obtain ⟨z, hz⟩ : ∃ z, j * cn = z := ⟨_, rfl⟩
      obtain ⟨s, hs⟩ : ∃ s, z + k = s := ⟨_, rfl⟩
      have hs1 : s < la := by
        have := idx_lt hlt hk
        have := HLA.out; omega
      have hzi : (j : Int) * (cn : Int) = (z : Int) := by rw [← hz]; push_cast; rfl
      have hsi : (z : Int) + (k : Int) = (s : Int) := by rw [← hs]; push_cast; rfl
      have hzw : IntKind.i64.wrap (z : Int) = (z : Int) := IntWalk.i64_in _ (by omega)
      have hsw : IntKind.i64.wrap (s : Int) = (s : Int) := IntWalk.i64_in _ (by omega)
      have hd1 : wr.cell? ⟨b1, off + s, none⟩ = some (.int .i64 (xs.getD s 0)) := HC.out s hs1
      have HV1 : Hid (f j = xs.getD s 0) := hid (by rw [← HF.out]; simp only [at2, hz, hs])
      have hi2 : (0 : Int) ≤ (s : Int) := by omega
      have hi3 : (s : Int) < (la : Int) := by omega
      clear hz hs
      obtain ⟨v1, hv1⟩ : ∃ v, xs.getD s 0 = v := ⟨_, rfl⟩
      rw [hv1] at hd1 HV1
      clear hv1
      go_wp2_with fail
      go_loopw [7, 8] (fun l q w2 => ∃ p n : Nat, p ≤ rn ∧ q = .int .i64 p ∧ l = .bool (allTo (fun j' => decide (f j' ≤ f j)) p) ∧ w2 = wr.drewN n) (fun _ q _ => rn - (intOf q).toNat)
      case atStart => exact ⟨0, 0, Nat.zero_le _, rfl, rfl, rfl⟩
      case round =>
        obtain ⟨p, n2, hp2, rfl, rfl, rfl⟩ := hrel
        obtain ⟨L, hL⟩ : ∃ L, allTo (fun j' => decide (f j' ≤ f j)) p = L := ⟨_, rfl⟩
        rw [hL]
        have HL := hid hL
        clear hL
        by_cases hp : p < rn
        · cases L with
          | false =>
            go_wp2_with fail
            go_quiet (fail)
            go_wp2_with fail
            go_roundw
            case rel => exact ⟨p + 1, _, by omega, by go_num, by rw [allTo, HL.out]; rfl, rfl⟩
            case measure => simp [intOf]; omega
          | true =>
            obtain ⟨z2, hz⟩ : ∃ z, p * cn = z := ⟨_, rfl⟩
            obtain ⟨s2, hs⟩ : ∃ s, z2 + k = s := ⟨_, rfl⟩
            have ht1 : s2 < la := by
              have := idx_lt hp hk
              have := HLA.out; omega
            have hyi : (p : Int) * (cn : Int) = (z2 : Int) := by rw [← hz]; push_cast; rfl
            have hti : (z2 : Int) + (k : Int) = (s2 : Int) := by rw [← hs]; push_cast; rfl
            have hyw : IntKind.i64.wrap (z2 : Int) = (z2 : Int) := IntWalk.i64_in _ (by omega)
            have htw : IntKind.i64.wrap (s2 : Int) = (s2 : Int) := IntWalk.i64_in _ (by omega)
            have hd2 := HC.out s2 ht1
            change _ = some (Value.int .i64 (xs.getD s2 0)) at hd2
            have HV2 : Hid (f p = xs.getD s2 0) := hid (by rw [← HF.out]; simp only [at2, hz, hs])
            have hi4 : (0 : Int) ≤ (s2 : Int) := by omega
            have hi5 : (s2 : Int) < (la : Int) := by omega
            clear hz hs
            obtain ⟨v2, hv2⟩ : ∃ v, xs.getD s2 0 = v := ⟨_, rfl⟩
            rw [hv2] at hd2 HV2
            clear hv2
            go_wp2_with fail
            go_quiet (fail)
            go_wp2_with fail
            go_roundw
            case rel => exact ⟨p + 1, _, by omega, by go_num, by rw [allTo, HL.out, HV1.out, HV2.out]; rfl, rfl⟩
            case measure => simp [intOf]; omega
        · obtain rfl : p = rn := by omega
          cases L with
          | false =>
            have hg : Hid (gath (bestB f p) (j + 1) = gath (bestB f p) j) := hid (by rw [gath, if_neg (by rw [bestB, HL.out]; simp)])
            go_wp2_with fail
            go_roundw
            case rel => exact ⟨j + 1, by omega, by go_num, by rw [hg.out, HN.out]; have := HOWN.out; rw [HN.out] at this; exact row_below this (below_drewN (Below.refl _ _) _), below_drewN HBEL.out _⟩
            case measure => simp [intOf]; omega
          | true =>
            have hg : Hid (gath (bestB f p) (j + 1) = gath (bestB f p) j ++ [(j : Int)]) := hid (by rw [gath, if_pos (by rw [bestB, HL.out])])
            have HOWN3 : Hid (World.ownsRow (wr.drewN n2) w.heap.size 2 1 (.slice a1 n cap1) n ((gath (bestB f p) j).map (Value.int .i64))) := hid (by have := HOWN.out; rw [HN.out] at this; exact row_below this (below_drewN (Below.refl _ _) _))
            have HBL3 := hid (below_drewN HBEL.out n2)
            go_wp2_with (at_builtin; refine wpList_appI rfl (.tmp 59) (.tmp 61) rfl w (.slice a1 n cap1) n (gath (bestB f p) j) j rfl HOWN3.out HBL3.out (by omega) rfl ?_; intro v' w1 hown1 hb1)
            have hown2 : w1.ownsRow w.heap.size 2 1 v' (gath (bestB f p) (j + 1)).length ((gath (bestB f p) (j + 1)).map (Value.int .i64)) := by
              rw [hg.out]; simpa [HN.out] using hown1
            have HO2 := hid hown2
            have HB2 := hid hb1
            clear hown1 hown2 hb1
            go_wp2_with fail
            go_roundw
            case rel => exact ⟨j + 1, by omega, by go_num, HO2.out, HB2.out⟩
            case measure => simp [intOf]; omega
    · obtain rfl : j = rn := by omega
      go_wp2_with fail
      go_ret
      exact ⟨_, rfl, by have := HOWN.out; rw [HN.out] at this; rw [HN.out]; exact this, HBEL.out⟩
/-- The best rows of a column of a valid game; nothing if there is no such column. -/
def bestF (r c k : Int) (xs ys : List Int) : List Int := if validG r c xs ys && inB 0 (c - 1) k then bR (fun i => at2 xs c.toNat i k.toNat) r.toNat else []
def bestD (r c k : Int) (xs ys : List Int) : Bool := validG r c xs ys && inB 0 (c - 1) k
theorem retL_none (w w' : World) (h : Below w.heap.size w w') : RetL [] 0 false w (.returned (.tuple #[.slice none 0 0, .bool false])) w' := ⟨none, 0, rfl, ⟨rfl, fun h => absurd h (Nat.lt_irrefl _)⟩, h⟩
theorem hasCol (r c : Int) (a : Option Addr) (la ca : Nat) (b : Option Addr) (lb cb : Nat) (k : Int) (w : World) (hc : 1 ≤ c ∧ c ≤ 6) : Calls Try.prog 98 #[.agg #[.int .i64 r, .int .i64 c, .slice a la ca, .slice b lb cb], .int .i64 k] w (RetD (inB 0 (c - 1) k) w) := by
  have bw : Below w.heap.size w (w.alloc (.cells #[.int .i64 r, .int .i64 c, .slice a la ca, .slice b lb cb] 44)) := Below.alloc (Below.refl _ _) (Nat.le_refl _) _
  obtain ⟨h1, h2⟩ := hc
  obtain ⟨c1, hc1⟩ : ∃ c1, c - 1 = c1 := ⟨_, rfl⟩
  rw [hc1]
  obtain ⟨d, hd⟩ : ∃ d, inB 0 c1 k = d := ⟨_, rfl⟩
  have hw := fun w => hid (within k 0 c1 w)
  rw [hd] at hw
  rw [hd]
  clear hd
  go_enter Try.func98, Try.ntmps98
  go_wp2_with (go_at_call 117; refine (hw _).out.mono ?_; rintro e w' ⟨rfl, rfl⟩)
  go_ret
  exact ⟨rfl, bw⟩
set_option maxHeartbeats 2000000 in
theorem spBestRows (r c : Int) (a : Option Addr) (la ca : Nat) (xs : List Int) (b : Option Addr) (lb cb : Nat) (ys : List Int) (k : Int) (w : World) (h : SlV (Value.int .i64) w a la xs) (g : SlV (Value.int .i64) w b lb ys) (hla : la ≤ 1048576) (hlb : lb ≤ 1048576) : Calls Try.prog 53 #[.agg #[.int .i64 r, .int .i64 c, .slice a la ca, .slice b lb cb], .int .i64 k] w (RetL (bestF r c k xs ys) (bestF r c k xs ys).length (bestD r c k xs ys) w) := by
  have bw : Below w.heap.size w (w.alloc (.cells #[.int .i64 r, .int .i64 c, .slice a la ca, .slice b lb cb] 44)) := Below.alloc (Below.refl _ _) (Nat.le_refl _) _
  have hbox : Box (w.alloc (.cells #[.int .i64 r, .int .i64 c, .slice a la ca, .slice b lb cb] 44)) w.heap.size [.int .i64 r, .int .i64 c, .slice a la ca, .slice b lb cb] := Box.new _ _ _
  have HIS := hid (l02Is r c a la ca xs b lb cb ys _ _ hbox (h.below bw) (g.below bw) hla hlb)
  cases hv : validG r c xs ys with
  | false =>
    have e1 : bestF r c k xs ys = [] := by simp [bestF, hv]
    have e2 : bestD r c k xs ys = false := by simp [bestD, hv]
    rw [e1, e2]
    rw [hv] at HIS
    go_enter Try.func53, Try.ntmps53
    go_wp2_with fail
    refine HIS.out.mono ?_
    rintro e w' ⟨rfl, n, rfl⟩
    go_wp2_with fail
    go_ret2
    exact retL_none _ _ (below_drewN bw n)
  | true =>
    rw [hv] at HIS
    obtain ⟨rn, cn, rfl, rfl, hr1, hr2, hc1, hc2, h5, h7, h6, h8⟩ := validG_parts hv
    obtain ⟨c1, hc1'⟩ : ∃ c1, (cn : Int) - 1 = c1 := ⟨_, rfl⟩
    cases hd : inB 0 c1 k with
    | false =>
      have e1 : bestF rn cn k xs ys = [] := by rw [bestF, hc1', hd]; simp
      have e2 : bestD rn cn k xs ys = false := by rw [bestD, hc1', hd]; simp
      rw [e1, e2]
      have hw := fun w => hid (l00In k 0 c1 w)
      rw [hd] at hw
      clear hv h5 h6 h7 h8 e1 e2 hd
      go_enter Try.func53, Try.ntmps53
      go_wp2_with fail
      refine HIS.out.mono ?_
      rintro e wq ⟨rfl, n, hwq⟩
      have HX2 : Hid (Box wq w.heap.size [.int .i64 rn, .int .i64 cn, .slice a la ca, .slice b lb cb]) := hid (by rw [hwq]; exact hbox.dr n)
      have HB2 : Hid (Below w.heap.size w wq) := hid (by rw [hwq]; exact below_drewN bw n)
      have f1 := (HX2.out.2 1 _ rfl).1
      clear hwq hbox bw
      go_wp2_with (go_at_call 96; refine (hw _).out.mono ?_; rintro e w' ⟨rfl, rfl⟩)
      go_ret2
      exact retL_none _ _ HB2.out
    | true =>
      have hk : ∃ kn : Nat, k = kn ∧ kn < cn := by
        unfold inB at hd
        simp only [decide_eq_true_eq] at hd
        exact ⟨k.toNat, by omega, by omega⟩
      obtain ⟨kn, rfl, hkn⟩ := hk
      have e1 : bestF rn cn kn xs ys = bR (fun i => at2 xs cn i kn) rn := by rw [bestF, hc1', hd, hv]; simp
      have e2 : bestD rn cn kn xs ys = true := by rw [bestD, hc1', hd, hv]; rfl
      rw [e1, e2]
      have hw := fun w => hid (l00In kn 0 c1 w)
      rw [hd] at hw
      have HLA : Hid (la = rn * cn) := hid (by rw [← h.1]; exact h5)
      have HX := hid hbox
      have HH := hid (h.below bw)
      have HB := hid bw
      clear hv h5 h6 h7 h8 e1 e2 hd hbox h g bw
      obtain ⟨L, hL⟩ : ∃ L, bR (fun i => at2 xs cn i kn) rn = L := ⟨_, rfl⟩
      rw [hL]
      have HLL := hid hL
      clear hL
      go_enter Try.func53, Try.ntmps53
      go_wp2_with fail
      refine HIS.out.mono ?_
      rintro e wq ⟨rfl, n, hwq⟩
      have HX2 : Hid (Box wq w.heap.size [.int .i64 rn, .int .i64 cn, .slice a la ca, .slice b lb cb]) := hid (by rw [hwq]; exact HX.out.dr n)
      have HB2 : Hid (Below w.heap.size w wq) := hid (by rw [hwq]; exact below_drewN HB.out n)
      have HS2 : Hid (SlV (Value.int .i64) wq a la xs) := hid (by rw [hwq]; exact HH.out.drewN n)
      have f1 := (HX2.out.2 1 _ rfl).1
      clear hwq
      go_wp2_with (first | (go_at_call 96; refine (hw _).out.mono ?_; rintro e w' ⟨rfl, rfl⟩) | (go_at_call 97; refine (spBest rn cn a la ca xs b lb cb w.heap.size kn _ hr1 hr2 hc2 HLA.out HX2.out HS2.out hkn).mono ?_; rw [HLL.out]; rintro e w1 ⟨v, rfl, hrow, hbel⟩))
      go_ret2
      obtain ⟨a', cap', rfl, hcap, hob⟩ := OwB.of_row hrow
      exact ⟨a', cap', rfl, hob.mono HB2.out.size (Nat.le_refl _), below_to HB2.out hbel⟩
set_option maxHeartbeats 2000000 in
theorem imBestRows (r c : Int) (a : Option Addr) (la ca : Nat) (xs : List Int) (b : Option Addr) (lb cb : Nat) (ys : List Int) (k : Int) (w : World) (h : SlV (Value.int .i64) w a la xs) (g : SlV (Value.int .i64) w b lb ys) (hla : la ≤ 1048576) (hlb : lb ≤ 1048576) : Calls Try.prog 54 #[.agg #[.int .i64 r, .int .i64 c, .slice a la ca, .slice b lb cb], .int .i64 k] w (RetL (bestF r c k xs ys) (bestF r c k xs ys).length (bestD r c k xs ys) w) := by
  have bw : Below w.heap.size w (w.alloc (.cells #[.int .i64 r, .int .i64 c, .slice a la ca, .slice b lb cb] 44)) := Below.alloc (Below.refl _ _) (Nat.le_refl _) _
  have hbox : Box (w.alloc (.cells #[.int .i64 r, .int .i64 c, .slice a la ca, .slice b lb cb] 44)) w.heap.size [.int .i64 r, .int .i64 c, .slice a la ca, .slice b lb cb] := Box.new _ _ _
  have HIS := hid (imValidG r c a la ca xs b lb cb ys _ (h.below bw) (g.below bw) hla hlb)
  cases hv : validG r c xs ys with
  | false =>
    have e1 : bestF r c k xs ys = [] := by simp [bestF, hv]
    have e2 : bestD r c k xs ys = false := by simp [bestD, hv]
    rw [e1, e2]
    rw [hv] at HIS
    go_enter Try.func54, Try.ntmps54
    go_wp2_with fail
    refine HIS.out.mono ?_
    rintro e w1 ⟨rfl, b1⟩
    have bw1 := below_to bw b1
    go_wp2_with fail
    go_ret2
    exact retL_none _ _ bw1
  | true =>
    rw [hv] at HIS
    obtain ⟨rn, cn, rfl, rfl, hr1, hr2, hc1, hc2, h5, h7, h6, h8⟩ := validG_parts hv
    have HHC := fun w => hid (hasCol rn cn a la ca b lb cb k w ⟨by omega, by omega⟩)
    cases hd : inB 0 ((cn : Int) - 1) k with
    | false =>
      have e1 : bestF rn cn k xs ys = [] := by rw [bestF, hd]; simp
      have e2 : bestD rn cn k xs ys = false := by rw [bestD, hd]; simp
      rw [e1, e2]
      rw [hd] at HHC
      clear hv h5 h6 h7 h8 e1 e2 hd
      go_enter Try.func54, Try.ntmps54
      go_wp2_with fail
      refine HIS.out.mono ?_
      rintro e wq ⟨rfl, bq⟩
      have HX2 := hid (hbox.below bq)
      have HB2 : Hid (Below w.heap.size w wq) := hid (below_to bw bq)
      have f0 := (HX2.out.2 0 _ rfl).1
      have f1 := (HX2.out.2 1 _ rfl).1
      have f2 := (HX2.out.2 2 _ rfl).1
      have f3 := (HX2.out.2 3 _ rfl).1
      clear bq hbox bw
      go_wp2_with (go_at_call 98; refine (HHC _).out.mono ?_; rintro e w1 ⟨rfl, b1⟩; have bz := below_to HB2.out b1)
      go_ret2
      exact retL_none _ _ bz
    | true =>
      have hk : ∃ kn : Nat, k = kn ∧ kn < cn := by
        unfold inB at hd
        simp only [decide_eq_true_eq] at hd
        exact ⟨k.toNat, by omega, by omega⟩
      obtain ⟨kn, rfl, hkn⟩ := hk
      have e1 : bestF rn cn kn xs ys = bR (fun i => at2 xs cn i kn) rn := by rw [bestF, hd, hv]; simp
      have e2 : bestD rn cn kn xs ys = true := by rw [bestD, hd, hv]; rfl
      rw [e1, e2]
      rw [hd] at HHC
      have HLA : Hid (la = rn * cn) := hid (by rw [← h.1]; exact h5)
      have HX := hid hbox
      have HH := hid (h.below bw)
      have HB := hid bw
      clear hv h5 h6 h7 h8 e1 e2 hd hbox h g bw
      obtain ⟨L, hL⟩ : ∃ L, bR (fun i => at2 xs cn i kn) rn = L := ⟨_, rfl⟩
      rw [hL]
      have HLL := hid hL
      clear hL
      go_enter Try.func54, Try.ntmps54
      go_wp2_with fail
      refine HIS.out.mono ?_
      rintro e wq ⟨rfl, bq⟩
      have HX2 := hid (HX.out.below bq)
      have HB2 : Hid (Below w.heap.size w wq) := hid (below_to HB.out bq)
      have HS2 := hid (HH.out.below bq)
      have f0 := (HX2.out.2 0 _ rfl).1
      have f1 := (HX2.out.2 1 _ rfl).1
      have f2 := (HX2.out.2 2 _ rfl).1
      have f3 := (HX2.out.2 3 _ rfl).1
      clear bq
      go_wp2_with fail
      refine (HHC _).out.mono ?_
      rintro e w1 ⟨rfl, b1⟩
      have HX3 := hid (HX2.out.below b1)
      have HB3 : Hid (Below w.heap.size w w1) := hid (below_to HB2.out b1)
      have HS3 := hid (HS2.out.below b1)
      clear f0 f1 f2 f3 b1
      have f0 := (HX3.out.2 0 _ rfl).1
      have f1 := (HX3.out.2 1 _ rfl).1
      have f2 := (HX3.out.2 2 _ rfl).1
      have f3 := (HX3.out.2 3 _ rfl).1
      go_wp2_with fail
      refine (imBest rn cn a la ca xs b lb cb kn _ hr2 hc2 HLA.out HS3.out hkn).mono ?_
      rw [HLL.out]
      rintro e w2 ⟨v, rfl, hrow, hbel⟩
      have HRR := hid hrow
      have HBB := hid hbel
      clear hrow hbel
      go_wp2_with fail
      go_ret2
      obtain ⟨a', cap', rfl, hcap, hob⟩ := OwB.of_row HRR.out
      exact ⟨a', cap', rfl, hob.mono HB3.out.size (Nat.le_refl _), below_to HB3.out HBB.out⟩
theorem bestF_len (r c k : Int) (xs ys : List Int) : (bestF r c k xs ys).length ≤ 1048576 := by
  unfold bestF
  split
  · rename_i h
    simp only [Bool.and_eq_true] at h
    obtain ⟨rn, cn, rfl, rfl, hr1, hr2, -⟩ := validG_parts h.1
    have := bR_len (fun i => at2 xs (cn : Int).toNat i k.toNat) (rn : Int).toNat
    simp only [Int.toNat_natCast] at this ⊢
    omega
  · simp
theorem bothBestRows (r : Int) (c : Int) (_ : (Lit.int .i64 r).wf = true) (_ : (Lit.int .i64 c).wf = true) (la : Nat) (xs : List Int) (hla : la ≤ 1048576) (_ : ∀ n ∈ xs, (Lit.int .i64 n).wf = true) (lb : Nat) (ys : List Int) (hlb : lb ≤ 1048576) (_ : ∀ n ∈ ys, (Lit.int .i64 n).wf = true) (k : Int) (_ : (Lit.int .i64 k).wf = true) :
    ∃ (F : List Int) (n : Nat) (D : Bool), n ≤ 1048576 ∧ ∀ (a : Option Addr) (ca : Nat) (b : Option Addr) (cb : Nat) (w : World), SlV (Value.int .i64) w a la xs → SlV (Value.int .i64) w b lb ys →
      Calls Try.prog 53 #[.agg #[.int .i64 r, .int .i64 c, .slice a la ca, .slice b lb cb], .int .i64 k] w (RetL F n D w) ∧ Calls Try.prog 54 #[.agg #[.int .i64 r, .int .i64 c, .slice a la ca, .slice b lb cb], .int .i64 k] w (RetL F n D w) :=
  ⟨_, _, _, bestF_len r c k xs ys, fun a ca b cb w h g => ⟨spBestRows r c a la ca xs b lb cb ys k w h g hla hlb, imBestRows r c a la ca xs b lb cb ys k w h g hla hlb⟩⟩
end TryWalk
end Go.Proofs.Ytlbmmecjiopbbaa
