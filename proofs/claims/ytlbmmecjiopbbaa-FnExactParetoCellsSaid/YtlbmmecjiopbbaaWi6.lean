/- Games: the law on worse rows: the program's side. No condition. -/
import Derived.Test.YtlbmmecjiopbbaaWi5
namespace Go.Proofs.Ytlbmmecjiopbbaa
open Go.RowKit Flo Sl Pg
set_option linter.unusedVariables false
attribute [local go_sem ↓] Go.wp_at_zero Go.wp_at_succ
namespace TryWalk
set_option maxRecDepth 100000 in
set_option maxHeartbeats 4000000 in
theorem clos128 (rn cn : Nat) (a : Option Addr) (la ca : Nat) (xs : List Int) (b : Option Addr) (lb cb : Nat) (kg kj ki i j k : Nat) (w : World) (hr2 : rn ≤ 6) (hc2 : cn ≤ 6) (hla : la = rn * cn) (hg : Box w kg [.int .i64 rn, .int .i64 cn, .slice a la ca, .slice b lb cb]) (hbj : Box w kj [.int .i64 j]) (hbi : Box w ki [.int .i64 i]) (h : SlV (Value.int .i64) w a la xs) (hi : i < rn) (hj : j < rn) (hk : k < cn) : Calls Try.prog 128 #[.int .i64 k, .pointer (some ⟨kg, 0, none⟩), .pointer (some ⟨kj, 0, none⟩), .pointer (some ⟨ki, 0, none⟩)] w (RetD (decide (at2 xs cn j k ≤ at2 xs cn i k)) w) := by
  obtain ⟨v1, hv1⟩ : ∃ v, at2 xs cn j k = v := ⟨_, rfl⟩
  obtain ⟨v2, hv2⟩ : ∃ v, at2 xs cn i k = v := ⟨_, rfl⟩
  have HGJ : Hid (∀ w', Below w.heap.size w w' → Calls Try.prog 92 #[.agg #[.int .i64 rn, .int .i64 cn, .slice a la ca, .slice b lb cb], .int .i64 j, .int .i64 k] w' fun e w'' => e = .returned (.int .i64 v1) ∧ Below w'.heap.size w' w'') := hid (fun w' hb => by rw [← hv1]; exact gA rn cn a la ca xs b lb cb j k w' hr2 hc2 hla (h.below hb) hj hk)
  have HGI : Hid (∀ w', Below w.heap.size w w' → Calls Try.prog 92 #[.agg #[.int .i64 rn, .int .i64 cn, .slice a la ca, .slice b lb cb], .int .i64 i, .int .i64 k] w' fun e w'' => e = .returned (.int .i64 v2) ∧ Below w'.heap.size w' w'') := hid (fun w' hb => by rw [← hv2]; exact gA rn cn a la ca xs b lb cb i k w' hr2 hc2 hla (h.below hb) hi hk)
  have HK : Hid (∀ w', Below w.heap.size w w' → Below w.heap.size w w' ∧ w'.cell? ⟨kg, 0, none⟩ = some (.int .i64 rn) ∧ w'.cell? ⟨kg, 1, none⟩ = some (.int .i64 cn) ∧ w'.cell? ⟨kg, 2, none⟩ = some (.slice a la ca) ∧ w'.cell? ⟨kg, 3, none⟩ = some (.slice b lb cb) ∧ w'.cell? ⟨kj, 0, none⟩ = some (.int .i64 j) ∧ w'.cell? ⟨ki, 0, none⟩ = some (.int .i64 i)) := hid (fun w' hb => by
    have hx := hg.below hb
    exact ⟨hb, (hx.2 0 _ rfl).1, (hx.2 1 _ rfl).1, (hx.2 2 _ rfl).1, (hx.2 3 _ rfl).1, ((hbj.below hb).2 0 _ rfl).1, ((hbi.below hb).2 0 _ rfl).1⟩)
  rw [hv1, hv2]
  clear hv1 hv2 hg hbj hbi h hla
  go_enter Try.func128, Try.ntmps128
  go_wp2_with fail
  go_region_held3 (fun w' => Below w.heap.size w w' ∧ w'.cell? ⟨kg, 0, none⟩ = some (.int .i64 rn) ∧ w'.cell? ⟨kg, 1, none⟩ = some (.int .i64 cn) ∧ w'.cell? ⟨kg, 2, none⟩ = some (.slice a la ca) ∧ w'.cell? ⟨kg, 3, none⟩ = some (.slice b lb cb) ∧ w'.cell? ⟨kj, 0, none⟩ = some (.int .i64 j) ∧ w'.cell? ⟨ki, 0, none⟩ = some (.int .i64 i)) ((go_split_ands; exact HK.out _ (by first | with_reducible assumption | exact (Below.refl _ _).drew | exact Below.drew (by with_reducible assumption) | exact below_to (by with_reducible assumption) (by with_reducible assumption))))
    (first
      | (go_at_call 92; with_reducible refine Calls.mono (HGJ.out _ ?_) ?_; (· (go_split_ands; with_reducible assumption)); rintro e w' ⟨rfl, bq⟩)
      | (go_at_call 92; with_reducible refine Calls.mono (HGI.out _ ?_) ?_; (· (go_split_ands; with_reducible assumption)); rintro e w' ⟨rfl, bq⟩))
  go_split_ands
  rename Below w.heap.size w _ => hb1
  go_wp2_with fail
  go_ret
  exact ⟨rfl, hb1⟩
theorem box1 (w : World) (v : Value) (T : TypeId) : Box (w.alloc (.cells #[v] T)) w.heap.size [v] := Box.new _ _ _
def cmpB (xs : List Int) (cn i j : Nat) : Bool := (upto cn).any (fun k => decide (at2 xs cn j k.toNat ≤ at2 xs cn i k.toNat))
set_option maxHeartbeats 4000000 in
theorem clos127 (rn cn : Nat) (a : Option Addr) (la ca : Nat) (xs : List Int) (b : Option Addr) (lb cb : Nat) (kg ki i j : Nat) (w : World) (hr2 : rn ≤ 6) (hc2 : cn ≤ 6) (hla : la = rn * cn) (hg : Box w kg [.int .i64 rn, .int .i64 cn, .slice a la ca, .slice b lb cb]) (hbi : Box w ki [.int .i64 i]) (h : SlV (Value.int .i64) w a la xs) (hi : i < rn) (hj : j < rn) : Calls Try.prog 127 #[.int .i64 j, .pointer (some ⟨kg, 0, none⟩), .pointer (some ⟨ki, 0, none⟩)] w (RetD (!(cmpB xs cn i j)) w) := by
  have hmf : ∀ (fn : Fn) (first cap : Array Value) (w : World), (Instr.makeFunc fn first cap).run Try.prog w = .ok (.func fn first cap) w := fun _ _ _ _ => rfl
  have bw : Below w.heap.size w (w.alloc (.cells #[.int .i64 j] 2)) := Below.alloc (Below.refl _ _) (Nat.le_refl _) _
  have hbj : Box (w.alloc (.cells #[.int .i64 j] 2)) w.heap.size [.int .i64 j] := box1 _ _ _
  have HG := hid (hg.below bw)
  have HI := hid (hbi.below bw)
  have HJ := hid hbj
  have HS := hid (h.below bw)
  have HB := hid bw
  have HLA := hid hla
  have f1 := (HG.out.2 1 _ rfl).1
  have HC : Hid (∀ w1, Below (w.alloc (.cells #[.int .i64 j] 2)).heap.size (w.alloc (.cells #[.int .i64 j] 2)) w1 → ∀ a' cap', SlV (Value.int .i64) w1 a' cn (upto cn) → Calls Try.prog 100 #[.slice a' cn cap', .func (.func 128) #[] #[.pointer (some ⟨kg, 0, none⟩), .pointer (some ⟨w.heap.size, 0, none⟩), .pointer (some ⟨ki, 0, none⟩)]] w1 (RetD (cmpB xs cn i j) w1)) := hid (fun w1 hb a' cap' hs => contF128 kg w.heap.size ki a' cn cap' (upto cn) _ w1 hs (by omega) (fun q hq w' hb' => by
    rw [upto_getD hq]
    exact clos128 rn cn a la ca xs b lb cb kg w.heap.size ki i j q w' hr2 hc2 HLA.out ((HG.out.below hb).below hb') ((HJ.out.below hb).below hb') ((HI.out.below hb).below hb') ((HS.out.below hb).below hb') hi hj hq))
  clear hg hbi hbj h bw hla
  obtain ⟨d, hd⟩ : ∃ d, cmpB xs cn i j = d := ⟨_, rfl⟩
  rw [hd] at HC
  rw [hd]
  clear hd
  go_enter Try.func127, Try.ntmps127
  go_wp2_with (first
    | (go_at_call 101; refine (counting cn _ (by omega)).mono ?_; rintro e w1 ⟨a', cap', rfl, hs, b1⟩; have HS1 := hid hs; have HB1 := hid b1; clear hs b1)
    | (go_at_call 100; refine (HC.out _ HB1.out _ _ HS1.out).mono ?_; rintro e w2 ⟨rfl, b2⟩; have HB2 := hid b2; clear b2))
  go_ret
  exact ⟨rfl, below_to HB.out (below_to HB1.out HB2.out)⟩
theorem cmp_worse (xs : List Int) (rn cn i : Nat) : (upto rn).any (fun j => !(cmpB xs cn i j.toNat)) = worseB xs rn cn i := worseB_im xs rn cn i
set_option maxRecDepth 100000 in
set_option maxHeartbeats 4000000 in
theorem imWorse (rn cn : Nat) (a : Option Addr) (la ca : Nat) (xs : List Int) (b : Option Addr) (lb cb : Nat) (w : World) (hr2 : rn ≤ 6) (hc2 : cn ≤ 6) (hla : la = rn * cn) (h : SlV (Value.int .i64) w a la xs) : Calls Try.prog 104 #[.agg #[.int .i64 rn, .int .i64 cn, .slice a la ca, .slice b lb cb]] w fun e w' => ∃ v, e = .returned v ∧ w'.ownsRow w.heap.size 2 1 v (gath (worseB xs rn cn) rn).length ((gath (worseB xs rn cn) rn).map (Value.int .i64)) ∧ Below w.heap.size w w' := by
  have hmf : ∀ (fn : Fn) (first cap : Array Value) (w : World), (Instr.makeFunc fn first cap).run Try.prog w = .ok (.func fn first cap) w := fun _ _ _ _ => rfl
  have bw : Below w.heap.size w (w.alloc (.cells #[.int .i64 rn, .int .i64 cn, .slice a la ca, .slice b lb cb] 44)) := Below.alloc (Below.refl _ _) (Nat.le_refl _) _
  have hbox : Box (w.alloc (.cells #[.int .i64 rn, .int .i64 cn, .slice a la ca, .slice b lb cb] 44)) w.heap.size [.int .i64 rn, .int .i64 cn, .slice a la ca, .slice b lb cb] := Box.new _ _ _
  have hs1 := h.below bw
  obtain ⟨W1, hW1⟩ : ∃ W1, w.alloc (.cells #[.int .i64 rn, .int .i64 cn, .slice a la ca, .slice b lb cb] 44) = W1 := ⟨_, rfl⟩
  have hsz : W1.heap.size = w.heap.size + 1 := by rw [← hW1]; simp
  rw [hW1] at bw hbox hs1
  have HW := hid hW1
  have HB := hid bw
  have HX := hid hbox
  have HS := hid hs1
  have HSZ := hid hsz
  have HLA := hid hla
  obtain ⟨f, hf⟩ : ∃ f, worseB xs rn cn = f := ⟨_, rfl⟩
  have HWB : Hid (∀ i, (upto rn).any (fun j => !(cmpB xs cn i j.toNat)) = f i) := hid (fun i => by rw [cmp_worse, ← hf])
  rw [hf]
  clear hf bw hbox hs1 h hla hW1 hsz
  go_enter Try.func104, Try.ntmps104
  go_wp2_with fail
  go_loopw [3, 4, 8] (fun v x i wr => ∃ j : Nat, j ≤ rn ∧ i = .int .i64 j ∧ wr.ownsRow W1.heap.size 2 1 v (gath f j).length ((gath f j).map (Value.int .i64)) ∧ Below W1.heap.size W1 wr) (fun _ _ i _ => rn - (intOf i).toNat)
  case atStart =>
    refine ⟨0, Nat.zero_le _, rfl, ?_, ?_⟩
    · have := World.ownsRow_made (size := 1) (e := 2) W1 #[] 0 (Nat.le_refl _) (by unfold maxLen; omega) rfl
      rw [HSZ.out, ← HW.out] at this
      rw [HSZ.out]
      exact this
    · rw [← HW.out]; exact (Below.refl _ _).alloc (Nat.le_refl _) _
  case round =>
    obtain ⟨j, hj, rfl, hown, hbel⟩ := hrel
    have HOWN := hid hown
    have HBEL := hid hbel
    obtain ⟨a1, cap1, rfl, hcap, hob⟩ := OwB.of_row hown
    clear hown hbel hob
    have hlen := gath_len f j
    obtain ⟨n, hn⟩ : ∃ n, (gath f j).length = n := ⟨_, rfl⟩
    have hn6 : n ≤ 6 := by omega
    rw [hn] at HOWN
    rw [hn]
    have HN := hid hn
    clear hlen hn
    by_cases hlt : j < rn
    · have bal : Below wr.heap.size wr (wr.alloc (.cells #[.int .i64 j] 2)) := Below.alloc (Below.refl _ _) (Nat.le_refl _) _
      have hbi : Box (wr.alloc (.cells #[.int .i64 j] 2)) wr.heap.size [.int .i64 j] := box1 _ _ _
      have HBA := hid (below_to HBEL.out bal)
      have HXA := hid (HX.out.below HBA.out)
      have HSA := hid (HS.out.below HBA.out)
      have HBI := hid hbi
      have HBAL := hid bal
      have f0 := (HXA.out.2 0 _ rfl).1
      have HC : Hid (∀ w1, Below (wr.alloc (.cells #[.int .i64 j] 2)).heap.size (wr.alloc (.cells #[.int .i64 j] 2)) w1 → ∀ a' cap', SlV (Value.int .i64) w1 a' rn (upto rn) → Calls Try.prog 100 #[.slice a' rn cap', .func (.func 127) #[] #[.pointer (some ⟨w.heap.size, 0, none⟩), .pointer (some ⟨wr.heap.size, 0, none⟩)]] w1 (RetD (f j) w1)) := hid (fun w1 hb a' cap' hs => by
        have := contF127 w.heap.size wr.heap.size a' rn cap' (upto rn) (fun q => !(cmpB xs cn j q.toNat)) w1 hs (by omega) (fun q hq w' hb' => by
          rw [upto_getD hq]
          exact clos127 rn cn a la ca xs b lb cb w.heap.size wr.heap.size j q w' hr2 hc2 HLA.out ((HXA.out.below hb).below hb') ((HBI.out.below hb).below hb') ((HSA.out.below hb).below hb') hlt hq)
        rw [HWB.out] at this
        exact this)
      clear bal hbi
      obtain ⟨d, hd⟩ : ∃ d, f j = d := ⟨_, rfl⟩
      rw [hd] at HC
      have HD := hid hd
      clear hd
      cases d with
      | false =>
        have hg : Hid (gath f (j + 1) = gath f j) := hid (by rw [gath, if_neg (by rw [HD.out]; simp)])
        go_wp2_with (first
          | (go_at_call 101; refine (counting rn _ (by omega)).mono ?_; rintro e w1 ⟨a', cap', rfl, hs, b1⟩; have HS1 := hid hs; have HB1 := hid b1; clear hs b1)
          | (go_at_call 100; refine (HC.out _ HB1.out _ _ HS1.out).mono ?_; rintro e w2 ⟨rfl, b2⟩; have HB2 := hid (below_to HBAL.out (below_to HB1.out b2)); clear b2))
        go_roundw
        case rel => exact ⟨j + 1, by omega, by go_num, by rw [hg.out, HN.out]; exact row_below HOWN.out HB2.out, below_to HBEL.out HB2.out⟩
        case measure => simp [intOf]; omega
      | true =>
        have hg : Hid (gath f (j + 1) = gath f j ++ [(j : Int)]) := hid (by rw [gath, if_pos HD.out])
        go_wp2_with (first
          | (go_at_call 101; refine (counting rn _ (by omega)).mono ?_; rintro e w1 ⟨a', cap', rfl, hs, b1⟩; have HS1 := hid hs; have HB1 := hid b1; clear hs b1)
          | (go_at_call 100; refine (HC.out _ HB1.out _ _ HS1.out).mono ?_; rintro e w2 ⟨rfl, b2⟩; have hbi2 := (((HBI.out.below HB1.out).below b2).2 0 _ rfl).1; have HB2 := hid (below_to HBAL.out (below_to HB1.out b2)); have HOWN3 := hid (row_below HOWN.out HB2.out); have HBL3 := hid (below_to HBEL.out HB2.out); clear b2)
          | (at_builtin; refine wpList_appI rfl (.tmp 16) (.tmp 18) rfl W1 _ n (gath f j) j rfl HOWN3.out HBL3.out (by omega) rfl ?_; intro v2 w3 hown1 hb1))
        have HO2 : Hid (w3.ownsRow W1.heap.size 2 1 v2 (gath f (j + 1)).length ((gath f (j + 1)).map (Value.int .i64))) := hid (by
          rw [hg.out]; simpa [HN.out] using hown1)
        have HB3 := hid hb1
        clear hown1 hb1
        go_wp2_with fail
        go_roundw
        case rel => exact ⟨j + 1, by omega, by go_num, HO2.out, HB3.out⟩
        case measure => simp [intOf]; omega
    · obtain rfl : j = rn := by omega
      have f0 := ((HX.out.below HBEL.out).2 0 _ rfl).1
      go_wp2_with fail
      go_ret
      exact ⟨_, rfl, by rw [HN.out]; exact row_mono HOWN.out (by have := HSZ.out; omega), below_to HB.out HBEL.out⟩
def worseF (r c : Int) (xs ys : List Int) : List Int := if validG r c xs ys then gath (worseB xs r.toNat c.toNat) r.toNat else []
set_option maxHeartbeats 2000000 in
theorem spWorseRows (r c : Int) (a : Option Addr) (la ca : Nat) (xs : List Int) (b : Option Addr) (lb cb : Nat) (ys : List Int) (w : World) (h : SlV (Value.int .i64) w a la xs) (g : SlV (Value.int .i64) w b lb ys) (hla : la ≤ 1048576) (hlb : lb ≤ 1048576) : Calls Try.prog 60 #[.agg #[.int .i64 r, .int .i64 c, .slice a la ca, .slice b lb cb]] w (RetL (worseF r c xs ys) (worseF r c xs ys).length (validG r c xs ys) w) := by
  have bw : Below w.heap.size w (w.alloc (.cells #[.int .i64 r, .int .i64 c, .slice a la ca, .slice b lb cb] 44)) := Below.alloc (Below.refl _ _) (Nat.le_refl _) _
  have hbox : Box (w.alloc (.cells #[.int .i64 r, .int .i64 c, .slice a la ca, .slice b lb cb] 44)) w.heap.size [.int .i64 r, .int .i64 c, .slice a la ca, .slice b lb cb] := Box.new _ _ _
  have HIS := hid (l02Is r c a la ca xs b lb cb ys _ _ hbox (h.below bw) (g.below bw) hla hlb)
  cases hv : validG r c xs ys with
  | false =>
    have e1 : worseF r c xs ys = [] := by simp [worseF, hv]
    rw [e1]
    rw [hv] at HIS
    go_enter Try.func60, Try.ntmps60
    go_wp2_with fail
    refine HIS.out.mono ?_
    rintro e w' ⟨rfl, n, rfl⟩
    go_wp2_with fail
    go_ret2
    exact retL_none _ _ (below_drewN bw n)
  | true =>
    rw [hv] at HIS
    obtain ⟨rn, cn, rfl, rfl, hr1, hr2, hc1, hc2, h5, h7, h6, h8⟩ := validG_parts hv
    have e1 : worseF rn cn xs ys = gath (worseB xs rn cn) rn := by rw [worseF, hv]; simp
    rw [e1]
    have HLA : Hid (la = rn * cn) := hid (by rw [← h.1]; exact h5)
    have HX := hid hbox
    have HH := hid (h.below bw)
    have HB := hid bw
    clear hv h5 h6 h7 h8 e1 hbox h g bw
    obtain ⟨L, hL⟩ : ∃ L, gath (worseB xs rn cn) rn = L := ⟨_, rfl⟩
    rw [hL]
    have HLL := hid hL
    clear hL
    go_enter Try.func60, Try.ntmps60
    go_wp2_with fail
    refine HIS.out.mono ?_
    rintro e wq ⟨rfl, n, hwq⟩
    have HX2 : Hid (Box wq w.heap.size [.int .i64 rn, .int .i64 cn, .slice a la ca, .slice b lb cb]) := hid (by rw [hwq]; exact HX.out.dr n)
    have HB2 : Hid (Below w.heap.size w wq) := hid (by rw [hwq]; exact below_drewN HB.out n)
    have HS2 : Hid (SlV (Value.int .i64) wq a la xs) := hid (by rw [hwq]; exact HH.out.drewN n)
    clear hwq
    go_wp2_with fail
    refine (spWorse0 rn cn a la ca xs b lb cb w.heap.size _ hr2 hc2 HLA.out HX2.out HS2.out).mono ?_
    rw [HLL.out]
    rintro e w1 ⟨v, rfl, hrow, hbel⟩
    have HRR := hid hrow
    have HBB := hid hbel
    clear hrow hbel
    go_wp2_with fail
    go_ret2
    obtain ⟨a', cap', rfl, hcap, hob⟩ := OwB.of_row HRR.out
    exact ⟨a', cap', rfl, hob.mono HB2.out.size (Nat.le_refl _), below_to HB2.out HBB.out⟩
set_option maxHeartbeats 2000000 in
theorem imWorseRows (r c : Int) (a : Option Addr) (la ca : Nat) (xs : List Int) (b : Option Addr) (lb cb : Nat) (ys : List Int) (w : World) (h : SlV (Value.int .i64) w a la xs) (g : SlV (Value.int .i64) w b lb ys) (hla : la ≤ 1048576) (hlb : lb ≤ 1048576) : Calls Try.prog 61 #[.agg #[.int .i64 r, .int .i64 c, .slice a la ca, .slice b lb cb]] w (RetL (worseF r c xs ys) (worseF r c xs ys).length (validG r c xs ys) w) := by
  have bw : Below w.heap.size w (w.alloc (.cells #[.int .i64 r, .int .i64 c, .slice a la ca, .slice b lb cb] 44)) := Below.alloc (Below.refl _ _) (Nat.le_refl _) _
  have hbox : Box (w.alloc (.cells #[.int .i64 r, .int .i64 c, .slice a la ca, .slice b lb cb] 44)) w.heap.size [.int .i64 r, .int .i64 c, .slice a la ca, .slice b lb cb] := Box.new _ _ _
  have HIS := hid (imValidG r c a la ca xs b lb cb ys _ (h.below bw) (g.below bw) hla hlb)
  cases hv : validG r c xs ys with
  | false =>
    have e1 : worseF r c xs ys = [] := by simp [worseF, hv]
    rw [e1]
    rw [hv] at HIS
    go_enter Try.func61, Try.ntmps61
    go_wp2_with fail
    refine HIS.out.mono ?_
    rintro e w1 ⟨rfl, b1⟩
    have bw1 := below_to bw b1
    go_wp2_with fail
    go_ret2
    exact retL_none _ _ bw1
  | true =>
    rw [hv] at HIS
    obtain ⟨rn, cn, rfl, rfl, hr1, hr2, hc1, hc2, h5, h7, h6, h8⟩ := validG_parts hv
    have e1 : worseF rn cn xs ys = gath (worseB xs rn cn) rn := by rw [worseF, hv]; simp
    rw [e1]
    have HLA : Hid (la = rn * cn) := hid (by rw [← h.1]; exact h5)
    have HX := hid hbox
    have HH := hid (h.below bw)
    have HB := hid bw
    clear hv h5 h6 h7 h8 e1 hbox h g bw
    obtain ⟨L, hL⟩ : ∃ L, gath (worseB xs rn cn) rn = L := ⟨_, rfl⟩
    rw [hL]
    have HLL := hid hL
    clear hL
    go_enter Try.func61, Try.ntmps61
    go_wp2_with fail
    refine HIS.out.mono ?_
    rintro e wq ⟨rfl, bq⟩
    have HX2 := hid (HX.out.below bq)
    have HB2 : Hid (Below w.heap.size w wq) := hid (below_to HB.out bq)
    have HS2 := hid (HH.out.below bq)
    have f0 := (HX2.out.2 0 _ rfl).1
    have f1 := (HX2.out.2 1 _ rfl).1
    have f2 := (HX2.out.2 2 _ rfl).1
    have f3 := (HX2.out.2 3 _ rfl).1
    clear bq
    go_wp2_with fail
    refine (imWorse rn cn a la ca xs b lb cb _ hr2 hc2 HLA.out HS2.out).mono ?_
    rw [HLL.out]
    rintro e w2 ⟨v, rfl, hrow, hbel⟩
    have HRR := hid hrow
    have HBB := hid hbel
    clear hrow hbel
    go_wp2_with fail
    go_ret2
    obtain ⟨a', cap', rfl, hcap, hob⟩ := OwB.of_row HRR.out
    exact ⟨a', cap', rfl, hob.mono HB2.out.size (Nat.le_refl _), below_to HB2.out HBB.out⟩
theorem worseF_len (r c : Int) (xs ys : List Int) : (worseF r c xs ys).length ≤ 1048576 := by
  unfold worseF
  split
  · rename_i h
    obtain ⟨rn, cn, rfl, rfl, hr1, hr2, -⟩ := validG_parts h
    have := gath_len (worseB xs (rn : Int).toNat (cn : Int).toNat) (rn : Int).toNat
    simp only [Int.toNat_natCast] at this ⊢
    omega
  · simp
theorem bothWorseRows (r : Int) (c : Int) (_ : (Lit.int .i64 r).wf = true) (_ : (Lit.int .i64 c).wf = true) (la : Nat) (xs : List Int) (hla : la ≤ 1048576) (_ : ∀ n ∈ xs, (Lit.int .i64 n).wf = true) (lb : Nat) (ys : List Int) (hlb : lb ≤ 1048576) (_ : ∀ n ∈ ys, (Lit.int .i64 n).wf = true) :
    ∃ (F : List Int) (n : Nat) (D : Bool), n ≤ 1048576 ∧ ∀ (a : Option Addr) (ca : Nat) (b : Option Addr) (cb : Nat) (w : World), SlV (Value.int .i64) w a la xs → SlV (Value.int .i64) w b lb ys →
      Calls Try.prog 60 #[.agg #[.int .i64 r, .int .i64 c, .slice a la ca, .slice b lb cb]] w (RetL F n D w) ∧ Calls Try.prog 61 #[.agg #[.int .i64 r, .int .i64 c, .slice a la ca, .slice b lb cb]] w (RetL F n D w) :=
  ⟨_, _, _, worseF_len r c xs ys, fun a ca b cb w h g => ⟨spWorseRows r c a la ca xs b lb cb ys w h g hla hlb, imWorseRows r c a la ca xs b lb cb ys w h g hla hlb⟩⟩
end TryWalk
end Go.Proofs.Ytlbmmecjiopbbaa
