/- Games: cells than which no other one is better. No condition. -/
import Derived.Test.YtlbmmecjiopbbaaWi6
namespace Go.Proofs.Ytlbmmecjiopbbaa
open Go.RowKit Flo Sl Pg
set_option linter.unusedVariables false
namespace TryWalk
def domB (xs ys : List Int) (x y : Nat) : Bool := decide (xs.getD x 0 ≤ xs.getD y 0) && decide (ys.getD x 0 ≤ ys.getD y 0) && (decide (xs.getD x 0 < xs.getD y 0) || decide (ys.getD x 0 < ys.getD y 0))
def parB (xs ys : List Int) (n x : Nat) : Bool := allTo (fun y => !(domB xs ys x y)) n
theorem par_im (xs ys : List Int) (n x : Nat) : (!((upto n).any (fun y => domB xs ys x y.toNat))) = parB xs ys n x := by
  rw [upto_any, parB, ← allTo_eq, List.not_any_eq_all_not]
  simp only [Int.toNat_natCast]
theorem clos102 (a : Option Addr) (la ca : Nat) (xs : List Int) (b : Option Addr) (lb cb : Nat) (ys : List Int) (rn cn : Nat) (kg kx x y : Nat) (w : World) (hl36 : la ≤ 36) (hlb : lb = la) (hg : Box w kg [.int .i64 rn, .int .i64 cn, .slice a la ca, .slice b lb cb]) (hbx : Box w kx [.int .i64 x]) (h : SlV (Value.int .i64) w a la xs) (g : SlV (Value.int .i64) w b lb ys) (hx : x < la) (hy : y < la) : Calls Try.prog 102 #[.int .i64 y, .pointer (some ⟨kg, 0, none⟩), .pointer (some ⟨kx, 0, none⟩)] w (RetB (domB xs ys x y) w) := by
  subst hlb
  have f2 := (hg.2 2 _ rfl).1
  have f3 := (hg.2 3 _ rfl).1
  have f4 := (hbx.2 0 _ rfl).1
  obtain ⟨b1, off1, rfl, hb1, hc1⟩ := h.2 (by omega)
  obtain ⟨b2, off2, rfl, hb2, hc2⟩ := g.2 (by omega)
  have c1 : w.cell? ⟨b1, off1 + x, none⟩ = some (.int .i64 (xs.getD x 0)) := hc1 x hx
  have c2 : w.cell? ⟨b1, off1 + y, none⟩ = some (.int .i64 (xs.getD y 0)) := hc1 y hy
  have c3 : w.cell? ⟨b2, off2 + x, none⟩ = some (.int .i64 (ys.getD x 0)) := hc2 x hx
  have c4 : w.cell? ⟨b2, off2 + y, none⟩ = some (.int .i64 (ys.getD y 0)) := hc2 y hy
  have hdom : domB xs ys x y = (decide (xs.getD x 0 ≤ xs.getD y 0) && decide (ys.getD x 0 ≤ ys.getD y 0) && (decide (xs.getD x 0 < xs.getD y 0) || decide (ys.getD x 0 < ys.getD y 0))) := rfl
  have i1 : (0 : Int) ≤ (x : Int) := by omega
  have i2 : (x : Int) < (lb : Int) := by omega
  have i3 : (0 : Int) ≤ (y : Int) := by omega
  have i4 : (y : Int) < (lb : Int) := by omega
  rw [hdom]
  clear hdom hc1 hc2 h g hg hbx
  generalize xs.getD x 0 = ax at *
  generalize xs.getD y 0 = ay at *
  generalize ys.getD x 0 = bx at *
  generalize ys.getD y 0 = ky at *
  by_cases p1 : ax ≤ ay
  · have d1 : decide (ax ≤ ay) = true := by simpa using p1
    by_cases p2 : bx ≤ ky
    · have d2 : decide (bx ≤ ky) = true := by simpa using p2
      by_cases p3 : ax < ay
      · have d3 : decide (ax < ay) = true := by simpa using p3
        rw [d1, d2, d3]
        go_enter Try.func102, Try.ntmps102
        go_wp2_with fail
        go_quiet (fail)
        go_wp2_with fail
        go_ret
        exact ⟨rfl, _, rfl⟩
      · have d3 : decide (ax < ay) = false := by simpa using p3
        rw [d1, d2, d3]
        by_cases p4 : bx < ky
        · have d4 : decide (bx < ky) = true := by simpa using p4
          rw [d4]
          go_enter Try.func102, Try.ntmps102
          go_wp2_with fail
          go_quiet (fail)
          go_wp2_with fail
          go_ret
          exact ⟨rfl, _, rfl⟩
        · have d4 : decide (bx < ky) = false := by simpa using p4
          rw [d4]
          go_enter Try.func102, Try.ntmps102
          go_wp2_with fail
          go_quiet (fail)
          go_wp2_with fail
          go_ret
          exact ⟨rfl, _, rfl⟩
    · have d2 : decide (bx ≤ ky) = false := by simpa using p2
      rw [d1, d2]
      go_enter Try.func102, Try.ntmps102
      go_wp2_with fail
      go_quiet (fail)
      go_wp2_with fail
      go_ret
      exact ⟨rfl, _, rfl⟩
  · have d1 : decide (ax ≤ ay) = false := by simpa using p1
    rw [d1]
    go_enter Try.func102, Try.ntmps102
    go_wp2_with fail
    go_quiet (fail)
    go_wp2_with fail
    go_ret
    exact ⟨rfl, _, rfl⟩
def parF (r c : Int) (xs ys : List Int) : List Int := if validG r c xs ys then gath (parB xs ys xs.length) xs.length else []
set_option maxRecDepth 100000 in
set_option maxHeartbeats 4000000 in
theorem imPareto (r c : Int) (a : Option Addr) (la ca : Nat) (xs : List Int) (b : Option Addr) (lb cb : Nat) (ys : List Int) (w : World) (h : SlV (Value.int .i64) w a la xs) (g : SlV (Value.int .i64) w b lb ys) (hla : la ≤ 1048576) (hlb : lb ≤ 1048576) : Calls Try.prog 59 #[.agg #[.int .i64 r, .int .i64 c, .slice a la ca, .slice b lb cb]] w (RetL (parF r c xs ys) (parF r c xs ys).length (validG r c xs ys) w) := by
  have hmf : ∀ (fn : Fn) (first cap : Array Value) (w : World), (Instr.makeFunc fn first cap).run Try.prog w = .ok (.func fn first cap) w := fun _ _ _ _ => rfl
  have bw : Below w.heap.size w (w.alloc (.cells #[.int .i64 r, .int .i64 c, .slice a la ca, .slice b lb cb] 44)) := Below.alloc (Below.refl _ _) (Nat.le_refl _) _
  have hbox : Box (w.alloc (.cells #[.int .i64 r, .int .i64 c, .slice a la ca, .slice b lb cb] 44)) w.heap.size [.int .i64 r, .int .i64 c, .slice a la ca, .slice b lb cb] := Box.new _ _ _
  have HIS := hid (imValidG r c a la ca xs b lb cb ys _ (h.below bw) (g.below bw) hla hlb)
  cases hv : validG r c xs ys with
  | false =>
    have e1 : parF r c xs ys = [] := by simp [parF, hv]
    rw [e1]
    rw [hv] at HIS
    go_enter Try.func59, Try.ntmps59
    go_wp2_with fail
    refine HIS.out.mono ?_
    rintro e w1 ⟨rfl, b1⟩
    have bz := below_to bw b1
    go_wp2_with fail
    go_ret2
    exact retL_none _ _ bz
  | true =>
    rw [hv] at HIS
    obtain ⟨rn, cn, rfl, rfl, hr1, hr2, hc1, hc2, h5, h7, h6, h8⟩ := validG_parts hv
    have e1 : parF rn cn xs ys = gath (parB xs ys xs.length) xs.length := by rw [parF, hv]; simp
    rw [e1, h.1]
    have hl36 : la ≤ 36 := by rw [← h.1, h5]; exact mul36 hr2 hc2
    have HAB : Hid (lb = la) := hid (by rw [← h.1, ← g.1, h5, h7])
    have HX := hid hbox
    have HH := hid (h.below bw)
    have HG := hid (g.below bw)
    have HB := hid bw
    clear hv h5 h6 h7 h8 e1 hbox h g bw
    obtain ⟨f, hf⟩ : ∃ f, parB xs ys la = f := ⟨_, rfl⟩
    rw [hf]
    have HF := hid hf
    clear hf
    go_enter Try.func59, Try.ntmps59
    go_wp2_with fail
    refine HIS.out.mono ?_
    rintro e wq ⟨rfl, bq⟩
    have HBQ0 := hid bq
    clear bq
    have HHQ : Hid (SlV (Value.int .i64) wq a la xs) := hid (HH.out.below HBQ0.out)
    have HGQ : Hid (SlV (Value.int .i64) wq b lb ys) := hid (HG.out.below HBQ0.out)
    have HXQ := hid (HX.out.below HBQ0.out)
    have HBQ := hid (below_to HB.out HBQ0.out)
    have f2 := (HXQ.out.2 2 _ rfl).1
    have f2a := ((HXQ.out.al (.cells #[] 2)).2 2 _ rfl).1
    go_wp2_with fail
    clear f2a
    go_loopw [4, 5, 13] (fun v x i wr => ∃ j : Nat, j ≤ la ∧ i = .int .i64 j ∧ wr.ownsRow wq.heap.size 2 1 v (gath f j).length ((gath f j).map (Value.int .i64)) ∧ Below wq.heap.size wq wr) (fun _ _ i _ => la - (intOf i).toNat)
    case atStart =>
      refine ⟨0, Nat.zero_le _, rfl, ?_, (Below.refl _ _).alloc (Nat.le_refl _) _⟩
      exact World.ownsRow_made (size := 1) (e := 2) wq #[] 0 (Nat.le_refl _) (by unfold maxLen; omega) rfl
    case round =>
      obtain ⟨j, hj, rfl, hown, hbel⟩ := hrel
      have HOWN := hid hown
      have HBEL := hid hbel
      obtain ⟨a1, cap1, rfl, hcap, hob⟩ := OwB.of_row hown
      clear hown hbel hob f2
      have hlen := gath_len f j
      obtain ⟨n, hn⟩ : ∃ n, (gath f j).length = n := ⟨_, rfl⟩
      have hn6 : n ≤ 36 := by omega
      rw [hn] at HOWN
      rw [hn]
      have HN := hid hn
      clear hlen hn
      have HXR := hid (HXQ.out.below HBEL.out)
      have HHR := hid (HHQ.out.below HBEL.out)
      have HGR := hid (HGQ.out.below HBEL.out)
      have f2 := (HXR.out.2 2 _ rfl).1
      by_cases hlt : j < la
      · have bal : Below wr.heap.size wr (wr.alloc (.cells #[.int .i64 j] 3)) := Below.alloc (Below.refl _ _) (Nat.le_refl _) _
        have hbi : Box (wr.alloc (.cells #[.int .i64 j] 3)) wr.heap.size [.int .i64 j] := box1 _ _ _
        have HXA := hid (HXR.out.below bal)
        have HHA := hid (HHR.out.below bal)
        have HGA := hid (HGR.out.below bal)
        have HBI := hid hbi
        have HBAL := hid bal
        clear f2
        have f2 := (HXA.out.2 2 _ rfl).1
        have HC : Hid (∀ w1, Below (wr.alloc (.cells #[.int .i64 j] 3)).heap.size (wr.alloc (.cells #[.int .i64 j] 3)) w1 → ∀ a' cap', SlV (Value.int .i64) w1 a' la (upto la) → Calls Try.prog 100 #[.slice a' la cap', .func (.func 102) #[] #[.pointer (some ⟨w.heap.size, 0, none⟩), .pointer (some ⟨wr.heap.size, 0, none⟩)]] w1 (RetD (!(f j)) w1)) := hid (fun w1 hb a' cap' hs => by
          have := contF102 w.heap.size wr.heap.size a' la cap' (upto la) (fun q => domB xs ys j q.toNat) w1 hs (by omega) (fun q hq w' hb' => by
            rw [upto_getD hq]
            exact (clos102 a la ca xs b lb cb ys rn cn w.heap.size wr.heap.size j q w' hl36 HAB.out ((HXA.out.below hb).below hb') ((HBI.out.below hb).below hb') ((HHA.out.below hb).below hb') ((HGA.out.below hb).below hb') hlt hq).mono (fun e w'' ⟨he, m, hm⟩ => ⟨he, by rw [hm]; exact below_drewN (Below.refl _ _) m⟩))
          have e2 : (upto la).any (fun q => domB xs ys j q.toNat) = !(f j) := by rw [← HF.out, ← par_im, Bool.not_not]
          rw [e2] at this
          exact this)
        clear bal hbi
        obtain ⟨d, hd⟩ : ∃ d, f j = d := ⟨_, rfl⟩
        rw [hd] at HC
        have HD := hid hd
        clear hd
        cases d with
        | false =>
          have hg : Hid (gath f (j + 1) = gath f j) := hid (by rw [gath, if_neg (by rw [HD.out]; simp)])
          go_wp2_with (first
            | (go_at_call 101; refine (counting la _ (by omega)).mono ?_; rintro e w1 ⟨a', cap', rfl, hs, b1⟩; have HS1 := hid hs; have HB1 := hid b1; clear hs b1)
            | (go_at_call 100; refine (HC.out _ HB1.out _ _ HS1.out).mono ?_; rintro e w2 ⟨rfl, b2⟩; have HB2 := hid (below_to HBAL.out (below_to HB1.out b2)); clear b2))
          go_roundw
          case rel => exact ⟨j + 1, by omega, by go_num, by rw [hg.out, HN.out]; exact row_below HOWN.out HB2.out, below_to HBEL.out HB2.out⟩
          case measure => simp [intOf]; omega
        | true =>
          have hg : Hid (gath f (j + 1) = gath f j ++ [(j : Int)]) := hid (by rw [gath, if_pos HD.out])
          go_wp2_with (first
            | (go_at_call 101; refine (counting la _ (by omega)).mono ?_; rintro e w1 ⟨a', cap', rfl, hs, b1⟩; have HS1 := hid hs; have HB1 := hid b1; clear hs b1)
            | (go_at_call 100; refine (HC.out _ HB1.out _ _ HS1.out).mono ?_; rintro e w2 ⟨rfl, b2⟩; have hbi2 := (((HBI.out.below HB1.out).below b2).2 0 _ rfl).1; have HB2 := hid (below_to HBAL.out (below_to HB1.out b2)); have HOWN3 := hid (row_below HOWN.out HB2.out); have HBL3 := hid (below_to HBEL.out HB2.out); clear b2)
            | (at_builtin; refine wpList_appI rfl (.tmp 23) (.tmp 25) rfl wq _ n (gath f j) j rfl HOWN3.out HBL3.out (by omega) rfl ?_; intro v2 w3 hown1 hb1))
          have HO2 : Hid (w3.ownsRow wq.heap.size 2 1 v2 (gath f (j + 1)).length ((gath f (j + 1)).map (Value.int .i64))) := hid (by
            rw [hg.out]; simpa [HN.out] using hown1)
          have HB3 := hid hb1
          clear hown1 hb1
          go_wp2_with fail
          go_roundw
          case rel => exact ⟨j + 1, by omega, by go_num, HO2.out, HB3.out⟩
          case measure => simp [intOf]; omega
      · obtain rfl : j = la := by omega
        go_wp2_with fail
        go_ret2
        obtain ⟨a', cap', hv, hcap, hob⟩ := OwB.of_row HOWN.out
        injection hv with e1 e2 e3
        subst e1; subst e3
        exact ⟨a1, cap1, by rw [HN.out]; rfl, by rw [HN.out]; exact hob.mono HBQ.out.size (Nat.le_refl _), below_to HBQ.out HBEL.out⟩
set_option maxRecDepth 100000 in
set_option maxHeartbeats 4000000 in
theorem spPareto (r c : Int) (a : Option Addr) (la ca : Nat) (xs : List Int) (b : Option Addr) (lb cb : Nat) (ys : List Int) (w : World) (h : SlV (Value.int .i64) w a la xs) (g : SlV (Value.int .i64) w b lb ys) (hla : la ≤ 1048576) (hlb : lb ≤ 1048576) : Calls Try.prog 58 #[.agg #[.int .i64 r, .int .i64 c, .slice a la ca, .slice b lb cb]] w (RetL (parF r c xs ys) (parF r c xs ys).length (validG r c xs ys) w) := by
  have hmf : ∀ (fn : Fn) (first cap : Array Value) (w : World), (Instr.makeFunc fn first cap).run Try.prog w = .ok (.func fn first cap) w := fun _ _ _ _ => rfl
  have bw : Below w.heap.size w (w.alloc (.cells #[.int .i64 r, .int .i64 c, .slice a la ca, .slice b lb cb] 44)) := Below.alloc (Below.refl _ _) (Nat.le_refl _) _
  have hbox : Box (w.alloc (.cells #[.int .i64 r, .int .i64 c, .slice a la ca, .slice b lb cb] 44)) w.heap.size [.int .i64 r, .int .i64 c, .slice a la ca, .slice b lb cb] := Box.new _ _ _
  have HIS := hid (l02Is r c a la ca xs b lb cb ys _ _ hbox (h.below bw) (g.below bw) hla hlb)
  cases hv : validG r c xs ys with
  | false =>
    have e1 : parF r c xs ys = [] := by simp [parF, hv]
    rw [e1]
    rw [hv] at HIS
    go_enter Try.func58, Try.ntmps58
    go_wp2_with fail
    refine HIS.out.mono ?_
    rintro e w' ⟨rfl, n, rfl⟩
    have bz := below_drewN bw n
    go_wp2_with fail
    go_ret2
    exact retL_none _ _ bz
  | true =>
    rw [hv] at HIS
    obtain ⟨rn, cn, rfl, rfl, hr1, hr2, hc1, hc2, h5, h7, h6, h8⟩ := validG_parts hv
    have e1 : parF rn cn xs ys = gath (parB xs ys xs.length) xs.length := by rw [parF, hv]; simp
    rw [e1, h.1]
    have hl36 : la ≤ 36 := by rw [← h.1, h5]; exact mul36 hr2 hc2
    have HAB : Hid (lb = la) := hid (by rw [← h.1, ← g.1, h5, h7])
    have HX := hid hbox
    have HH := hid (h.below bw)
    have HG := hid (g.below bw)
    have HB := hid bw
    clear hv h5 h6 h7 h8 e1 hbox h g bw
    obtain ⟨f, hf⟩ : ∃ f, parB xs ys la = f := ⟨_, rfl⟩
    rw [hf]
    have HF := hid hf
    clear hf
    go_enter Try.func58, Try.ntmps58
    go_wp2_with fail
    refine HIS.out.mono ?_
    rintro e wq ⟨rfl, n0, hwq⟩
    have HBQ0 := hid (show Below (w.alloc (.cells #[.int .i64 rn, .int .i64 cn, .slice a la ca, .slice b lb cb] 44)).heap.size (w.alloc (.cells #[.int .i64 rn, .int .i64 cn, .slice a la ca, .slice b lb cb] 44)) wq from by rw [hwq]; exact below_drewN (Below.refl _ _) n0)
    clear hwq
    have HHQ : Hid (SlV (Value.int .i64) wq a la xs) := hid (HH.out.below HBQ0.out)
    have HGQ : Hid (SlV (Value.int .i64) wq b lb ys) := hid (HG.out.below HBQ0.out)
    have HXQ := hid (HX.out.below HBQ0.out)
    have HBQ := hid (below_to HB.out HBQ0.out)
    have f2 := (HXQ.out.2 2 _ rfl).1
    have f2a := ((HXQ.out.al (.cells #[] 2)).2 2 _ rfl).1
    go_wp2_with fail
    clear f2a
    go_loopw [4, 5, 6, 7] (fun v i x y wr => ∃ j : Nat, j ≤ la ∧ i = .int .i64 j ∧ wr.ownsRow wq.heap.size 2 1 v (gath f j).length ((gath f j).map (Value.int .i64)) ∧ Below wq.heap.size wq wr) (fun _ i _ _ _ => la - (intOf i).toNat)
    case atStart =>
      refine ⟨0, Nat.zero_le _, rfl, ?_, (Below.refl _ _).alloc (Nat.le_refl _) _⟩
      exact World.ownsRow_made (size := 1) (e := 2) wq #[] 0 (Nat.le_refl _) (by unfold maxLen; omega) rfl
    case round =>
      obtain ⟨j, hj, rfl, hown, hbel⟩ := hrel
      have HOWN := hid hown
      have HBEL := hid hbel
      obtain ⟨a1, cap1, rfl, hcap, hob⟩ := OwB.of_row hown
      clear hown hbel hob f2
      have hlen := gath_len f j
      obtain ⟨n, hn⟩ : ∃ n, (gath f j).length = n := ⟨_, rfl⟩
      have hn6 : n ≤ 36 := by omega
      rw [hn] at HOWN
      rw [hn]
      have HN := hid hn
      clear hlen hn
      have HXR := hid (HXQ.out.below HBEL.out)
      have HHR := hid (HHQ.out.below HBEL.out)
      have HGR := hid (HGQ.out.below HBEL.out)
      have f2 := (HXR.out.2 2 _ rfl).1
      by_cases hlt : j < la
      · obtain ⟨b1, off1, rfl, hb1, hc1⟩ := HHR.out.2 (by omega)
        obtain ⟨b2, off2, rfl, hb2, hc2⟩ := HGR.out.2 (by have := HAB.out; omega)
        have HC1 := hid hc1
        have HC2 := hid hc2
        clear hc1 hc2
        have f3 := (HXR.out.2 3 _ rfl).1
        go_wp2_with fail
        go_loopw [6, 7] (fun l q w2 => ∃ p m : Nat, p ≤ la ∧ q = .int .i64 p ∧ l = .bool (allTo (fun y => !(domB xs ys j y)) p) ∧ w2 = wr.drewN m) (fun _ q _ => la - (intOf q).toNat)
        case atStart => exact ⟨0, 0, Nat.zero_le _, rfl, rfl, rfl⟩
        case round =>
          obtain ⟨p, m, hp2, rfl, rfl, rfl⟩ := hrel
          obtain ⟨L, hL⟩ : ∃ L, allTo (fun y => !(domB xs ys j y)) p = L := ⟨_, rfl⟩
          rw [hL]
          have HL := hid hL
          clear hL
          by_cases hp : p < la
          · have c1 := HC1.out j hlt
            have c2 := HC1.out p hp
            have c3 := HC2.out j (by have := HAB.out; omega)
            have c4 := HC2.out p (by have := HAB.out; omega)
            change _ = some (Value.int .i64 (xs.getD j 0)) at c1
            change _ = some (Value.int .i64 (xs.getD p 0)) at c2
            change _ = some (Value.int .i64 (ys.getD j 0)) at c3
            change _ = some (Value.int .i64 (ys.getD p 0)) at c4
            have hdom : domB xs ys j p = (decide (xs.getD j 0 ≤ xs.getD p 0) && decide (ys.getD j 0 ≤ ys.getD p 0) && (decide (xs.getD j 0 < xs.getD p 0) || decide (ys.getD j 0 < ys.getD p 0))) := rfl
            have i1 : (0 : Int) ≤ (j : Int) := by omega
            have i2 : (j : Int) < (la : Int) := by omega
            have i3 : (0 : Int) ≤ (p : Int) := by omega
            have i4 : (p : Int) < (la : Int) := by omega
            have i5 : (j : Int) < (lb : Int) := by have := HAB.out; omega
            have i6 : (p : Int) < (lb : Int) := by have := HAB.out; omega
            obtain ⟨ax, hax⟩ : ∃ v, xs.getD j 0 = v := ⟨_, rfl⟩
            obtain ⟨ay, hay⟩ : ∃ v, xs.getD p 0 = v := ⟨_, rfl⟩
            obtain ⟨bx, hbx⟩ : ∃ v, ys.getD j 0 = v := ⟨_, rfl⟩
            obtain ⟨ky, hky⟩ : ∃ v, ys.getD p 0 = v := ⟨_, rfl⟩
            rw [hax, hay, hbx, hky] at hdom
            rw [hax] at c1
            rw [hay] at c2
            rw [hbx] at c3
            rw [hky] at c4
            clear hax hay hbx hky
            obtain ⟨D, hD⟩ : ∃ D, domB xs ys j p = D := ⟨_, rfl⟩
            have HDD := hid hD
            rw [hD] at hdom
            have HDM := hid hdom
            clear hD hdom
            have HST : Hid (allTo (fun y => !(domB xs ys j y)) (p + 1) = (L && !D)) := hid (by rw [allTo, HL.out, HDD.out])
            by_cases p1 : ax ≤ ay
            · have d1 : decide (ax ≤ ay) = true := by simpa using p1
              by_cases p2 : bx ≤ ky
              · have d2 : decide (bx ≤ ky) = true := by simpa using p2
                by_cases p3 : ax < ay
                · have d3 : decide (ax < ay) = true := by simpa using p3
                  obtain rfl : D = true := by rw [HDM.out, d1, d2, d3]; rfl
                  go_wp2_with fail
                  go_quiet (fail)
                  go_wp2_with fail
                  go_roundw
                  case rel => exact ⟨p + 1, m + nq, by omega, by go_num, by rw [HST.out]; simp, by first | rfl | exact World.drewN_drewN ..⟩
                  case measure => simp [intOf]; omega
                · have d3 : decide (ax < ay) = false := by simpa using p3
                  by_cases p4 : bx < ky
                  · have d4 : decide (bx < ky) = true := by simpa using p4
                    obtain rfl : D = true := by rw [HDM.out, d1, d2, d3, d4]; rfl
                    go_wp2_with fail
                    go_quiet (fail)
                    go_wp2_with fail
                    go_roundw
                    case rel => exact ⟨p + 1, m + nq, by omega, by go_num, by rw [HST.out]; simp, by first | rfl | exact World.drewN_drewN ..⟩
                    case measure => simp [intOf]; omega
                  · have d4 : decide (bx < ky) = false := by simpa using p4
                    obtain rfl : D = false := by rw [HDM.out, d1, d2, d3, d4]; rfl
                    go_wp2_with fail
                    go_quiet (fail)
                    go_wp2_with fail
                    go_roundw
                    case rel => exact ⟨p + 1, m + nq, by omega, by go_num, by rw [HST.out]; simp, by first | rfl | exact World.drewN_drewN ..⟩
                    case measure => simp [intOf]; omega
              · have d2 : decide (bx ≤ ky) = false := by simpa using p2
                obtain rfl : D = false := by rw [HDM.out, d1, d2]; rfl
                go_wp2_with fail
                go_quiet (fail)
                go_wp2_with fail
                go_roundw
                case rel => exact ⟨p + 1, m + nq, by omega, by go_num, by rw [HST.out]; simp, by first | rfl | exact World.drewN_drewN ..⟩
                case measure => simp [intOf]; omega
            · have d1 : decide (ax ≤ ay) = false := by simpa using p1
              obtain rfl : D = false := by rw [HDM.out, d1]; rfl
              go_wp2_with fail
              go_quiet (fail)
              go_wp2_with fail
              go_roundw
              case rel => exact ⟨p + 1, m + nq, by omega, by go_num, by rw [HST.out]; simp, by first | rfl | exact World.drewN_drewN ..⟩
              case measure => simp [intOf]; omega
          · obtain rfl : p = la := by omega
            cases L with
            | false =>
              have hg : Hid (gath f (j + 1) = gath f j) := hid (by rw [gath, if_neg (by rw [← HF.out, parB, HL.out]; simp)])
              go_wp2_with fail
              go_roundw
              case rel => exact ⟨j + 1, by omega, by go_num, by rw [hg.out, HN.out]; exact row_below HOWN.out (below_drewN (Below.refl _ _) _), below_drewN HBEL.out _⟩
              case measure => simp [intOf]; omega
            | true =>
              have hg : Hid (gath f (j + 1) = gath f j ++ [(j : Int)]) := hid (by rw [gath, if_pos (by rw [← HF.out, parB, HL.out])])
              have HOWN3 := hid (row_below HOWN.out (below_drewN (Below.refl wr.heap.size wr) m))
              have HBL3 := hid (below_drewN HBEL.out m)
              go_wp2_with (at_builtin; refine wpList_appI rfl (.tmp 76) (.tmp 78) rfl wq _ n (gath f j) j rfl HOWN3.out HBL3.out (by omega) rfl ?_; intro v2 w3 hown1 hb1)
              have HO2 : Hid (w3.ownsRow wq.heap.size 2 1 v2 (gath f (j + 1)).length ((gath f (j + 1)).map (Value.int .i64))) := hid (by
                rw [hg.out]; simpa [HN.out] using hown1)
              have HB3 := hid hb1
              clear hown1 hb1
              go_wp2_with fail
              go_roundw
              case rel => exact ⟨j + 1, by omega, by go_num, HO2.out, HB3.out⟩
              case measure => simp [intOf]; omega
      · obtain rfl : j = la := by omega
        go_wp2_with fail
        go_ret2
        obtain ⟨a', cap', hv, hcap, hob⟩ := OwB.of_row HOWN.out
        injection hv with e1 e2 e3
        subst e1; subst e3
        exact ⟨a1, cap1, by rw [HN.out]; rfl, by rw [HN.out]; exact hob.mono HBQ.out.size (Nat.le_refl _), below_to HBQ.out HBEL.out⟩
theorem parF_len (r c : Int) (xs ys : List Int) : (parF r c xs ys).length ≤ 1048576 := by
  unfold parF
  split
  · rename_i h
    obtain ⟨rn, cn, rfl, rfl, hr1, hr2, hc1, hc2, h5, -⟩ := validG_parts h
    have := gath_len (parB xs ys xs.length) xs.length
    have h36 := mul36 hr2 hc2
    omega
  · simp
theorem bothPareto (r : Int) (c : Int) (_ : (Lit.int .i64 r).wf = true) (_ : (Lit.int .i64 c).wf = true) (la : Nat) (xs : List Int) (hla : la ≤ 1048576) (_ : ∀ n ∈ xs, (Lit.int .i64 n).wf = true) (lb : Nat) (ys : List Int) (hlb : lb ≤ 1048576) (_ : ∀ n ∈ ys, (Lit.int .i64 n).wf = true) :
    ∃ (F : List Int) (n : Nat) (D : Bool), n ≤ 1048576 ∧ ∀ (a : Option Addr) (ca : Nat) (b : Option Addr) (cb : Nat) (w : World), SlV (Value.int .i64) w a la xs → SlV (Value.int .i64) w b lb ys →
      Calls Try.prog 58 #[.agg #[.int .i64 r, .int .i64 c, .slice a la ca, .slice b lb cb]] w (RetL F n D w) ∧ Calls Try.prog 59 #[.agg #[.int .i64 r, .int .i64 c, .slice a la ca, .slice b lb cb]] w (RetL F n D w) :=
  ⟨_, _, _, parF_len r c xs ys, fun a ca b cb w h g => ⟨spPareto r c a la ca xs b lb cb ys w h g hla hlb, imPareto r c a la ca xs b lb cb ys w h g hla hlb⟩⟩
end TryWalk
end Go.Proofs.Ytlbmmecjiopbbaa
