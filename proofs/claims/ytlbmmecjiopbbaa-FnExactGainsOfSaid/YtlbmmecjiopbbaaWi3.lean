/- Games: the best rows of a column. No condition. -/
import Derived.Test.YtlbmmecjiopbbaaWi2
import Derived.Test.YtlbmmecjiopbbaaWh0
import Derived.Deep.RegionHeld3
import Derived.Deep.DrawnRows
namespace Go.Proofs.Ytlbmmecjiopbbaa
open Go.RowKit Flo Sl Pg
set_option linter.unusedVariables false
attribute [local go_sem ↓] Go.wp_at_zero Go.wp_at_succ
namespace TryWalk
/-- A game value over a table that can be read. -/
abbrev GV (rn cn : Nat) (a : Option Addr) (la ca : Nat) (b : Option Addr) (lb cb : Nat) : Value := .agg #[.int .i64 rn, .int .i64 cn, .slice a la ca, .slice b lb cb]
set_option maxHeartbeats 1000000 in
theorem gA (rn cn : Nat) (a : Option Addr) (la ca : Nat) (xs : List Int) (b : Option Addr) (lb cb : Nat) (i k : Nat) (w : World) (hr2 : rn ≤ 6) (hc2 : cn ≤ 6) (hla : la = rn * cn) (h : SlV (Value.int .i64) w a la xs) (hi : i < rn) (hk : k < cn) : Calls Try.prog 92 #[.agg #[.int .i64 rn, .int .i64 cn, .slice a la ca, .slice b lb cb], .int .i64 i, .int .i64 k] w fun e w' => e = .returned (.int .i64 (at2 xs cn i k)) ∧ Below w.heap.size w w' := by
  have bw : Below w.heap.size w (w.alloc (.cells #[.int .i64 rn, .int .i64 cn, .slice a la ca, .slice b lb cb] 44)) := Below.alloc (Below.refl _ _) (Nat.le_refl _) _
  have hl36 : la ≤ 36 := by rw [hla]; exact mul36 hr2 hc2
  have hix := idx_lt hi hk
  rw [← hla] at hix
  obtain ⟨b1, off, rfl, hb1, hc⟩ := h.2 (by omega)
  obtain ⟨z, hz⟩ : ∃ z, i * cn = z := ⟨_, rfl⟩
  obtain ⟨s, hs⟩ : ∃ s, z + k = s := ⟨_, rfl⟩
  have hs1 : s < la := by omega
  have hd1 : (w.alloc (.cells #[.int .i64 rn, .int .i64 cn, .slice (some ⟨b1, off, none⟩) la ca, .slice b lb cb] 44)).cell? ⟨b1, off + s, none⟩ = some (.int .i64 (xs.getD s 0)) := by
    rw [bw.cell (p := ⟨b1, off + s, none⟩) hb1]; exact hc s hs1
  have hv : at2 xs cn i k = xs.getD s 0 := by rw [at2, hz, hs]
  rw [hv]
  generalize xs.getD s 0 = v at *
  have hzi : (i : Int) * (cn : Int) = (z : Int) := by rw [← hz]; push_cast; rfl
  have hsi : (z : Int) + (k : Int) = (s : Int) := by rw [← hs]; push_cast; rfl
  have hz36 : z ≤ 36 := by omega
  have hzw : IntKind.i64.wrap (z : Int) = (z : Int) := IntWalk.i64_in _ (by omega)
  have hsw : IntKind.i64.wrap (s : Int) = (s : Int) := IntWalk.i64_in _ (by omega)
  have hi2 : (0 : Int) ≤ (s : Int) := by omega
  have hi3 : (s : Int) < (la : Int) := by omega
  clear hc hz hs hv hix hla
  go_enter Try.func92, Try.ntmps92
  go_wp2_with fail
  go_ret
  exact ⟨rfl, bw⟩
theorem grown_of_below {w w' : World} (h : Below w.heap.size w w') : w.grownBy w' none := ⟨h.os, h.tape, h.output, h.size, fun k hk _ => h.block k hk⟩
theorem row_below {base : Nat} {w w' : World} {v : Value} {n : Nat} {xs : List Value} (h : w.ownsRow base 2 1 v n xs) (b : Below w.heap.size w w') : w'.ownsRow base 2 1 v n xs :=
  h.kept (grown_of_below b) (by cases hv : v.ownBlock <;> simp)
theorem row_cut {base : Nat} {w : World} {a : Option Addr} {n cap : Nat} {xs : List Value} (h : w.ownsRow base 2 1 (.slice a n cap) n xs) : w.ownsRow base 2 1 (.slice a 0 cap) 0 [] := by
  refine ⟨by simp, ?_⟩
  rcases h.2 with ⟨h1, h2⟩ | ⟨g, c, cur, h1, h2, h3, h4, h5, h6, h7⟩
  · left
    injection h1 with e1 e2 e3
    subst e1; subst e3
    exact ⟨rfl, rfl⟩
  · right
    injection h1 with e1 e2 e3
    subst e1; subst e3
    exact ⟨g, cap, cur, rfl, h2, h3, Nat.zero_le _, h5, h6, by simp⟩
theorem new_cell (w : World) (v : Value) : ∀ j u, [v][j]? = some u → (w.alloc (.cells #[v] 2)).cell? ((⟨w.heap.size, 0, none⟩ : Addr).add j) = some u := by
  intro j u hj
  match j, hj with
  | 0, hj =>
    simp at hj
    subst hj
    show (w.alloc (.cells #[v] 2)).cell? ⟨w.heap.size, 0, none⟩ = some v
    rw [World.cell?_alloc_at _ _ _ _ rfl]; rfl
theorem one_int (n : Int) : ∀ u ∈ [Value.int .i64 n], u.oneCell' = true := by intro u hu; simp at hu; subst hu; rfl
theorem row_mono {base base' : Nat} {w : World} {v : Value} {n : Nat} {xs : List Value} (h : w.ownsRow base 2 1 v n xs) (hb : base' ≤ base) : w.ownsRow base' 2 1 v n xs := by
  refine ⟨h.1, ?_⟩
  rcases h.2 with hn | ⟨g, c, cur, h1, h2, rest⟩
  · exact .inl hn
  · exact .inr ⟨g, c, cur, h1, Nat.le_trans hb h2, rest⟩
/-- 'out = append(out, j)' on a list that the call made. -/
theorem wpList_appI {wq : World} {ops : Array Oper} {rest : List Oper} {o : Oper} {a : Act} {Q : Exit → Act → World → Prop} (hgd : o.guard = none) (s x : Operand)
    (ho : o.op = .call { callee := .builtin .append, args := #[s, x], argTypes := #[22, 22] }) (W1 : World) (v : Value) (n : Nat) (xs : List Int) (j : Int) (hs : a.eval s = v)
    (hown : wq.ownsRow W1.heap.size 2 1 v n (xs.map (Value.int .i64))) (hbel : Below W1.heap.size W1 wq) (hn : n ≤ 1000000) (hx : a.eval x = .slice (some ⟨wq.heap.size, 0, none⟩) 1 1)
    (h : ∀ v' w1, w1.ownsRow W1.heap.size 2 1 v' (n + 1) ((xs ++ [j]).map (Value.int .i64)) → Below W1.heap.size W1 w1 → wpList Try.prog ops Q rest (a.put o.dst v') w1) : wpList Try.prog ops Q (o :: rest) a (wq.alloc (.cells #[.int .i64 j] 2)) := by
  obtain ⟨i0, hi, hz0, hz1, hz2⟩ := info_parts infoI
  refine wpList_append_own _ hgd s x 22 ho W1.heap.size 2 i0 (.int .i64 0) 1 8 Try.underlying22 hi hz0 hz1 hz2 rfl (by decide) v n _ hs (hown.alloc _) ⟨wq.heap.size, 0, none⟩ 1 1 [.int .i64 j] hx rfl (new_cell _ _) (one_int _) (by unfold maxLen; omega) (by omega) (by have := hbel.size; simp; omega) ?_
  intro v' w1 hown1 hgrow _
  refine h v' w1 (by simpa using hown1) ?_
  refine (hbel.alloc hbel.size _).grown hgrow (by have := hbel.size; simp; omega) (fun q hq => (hown.lt q hq).1)
set_option maxRecDepth 100000 in
set_option maxHeartbeats 8000000 in
theorem imBest (rn cn : Nat) (a : Option Addr) (la ca : Nat) (xs : List Int) (b : Option Addr) (lb cb : Nat) (k : Nat) (w : World) (hr2 : rn ≤ 6) (hc2 : cn ≤ 6) (hla : la = rn * cn) (h : SlV (Value.int .i64) w a la xs) (hk : k < cn) : Calls Try.prog 93 #[.agg #[.int .i64 rn, .int .i64 cn, .slice a la ca, .slice b lb cb], .int .i64 k] w fun e w' => ∃ v, e = .returned v ∧ w'.ownsRow w.heap.size 2 1 v (bR (fun i => at2 xs cn i k) rn).length ((bR (fun i => at2 xs cn i k) rn).map (Value.int .i64)) ∧ Below w.heap.size w w' := by
  obtain ⟨f, hf⟩ : ∃ f, (fun i => at2 xs cn i k) = f := ⟨_, rfl⟩
  rw [hf]
  have HGA : ∀ (i : Nat) (w' : World), i < rn → SlV (Value.int .i64) w' a la xs → Calls Try.prog 92 #[.agg #[.int .i64 rn, .int .i64 cn, .slice a la ca, .slice b lb cb], .int .i64 i, .int .i64 k] w' fun e w'' => e = .returned (.int .i64 (f i)) ∧ Below w'.heap.size w' w'' := fun i w' hi' h' => by
    rw [← hf]; exact gA rn cn a la ca xs b lb cb i k w' hr2 hc2 hla h' hi' hk
  have HGA := hid HGA
  have bw : Below w.heap.size w (w.alloc (.cells #[.int .i64 rn, .int .i64 cn, .slice a la ca, .slice b lb cb] 44)) := Below.alloc (Below.refl _ _) (Nat.le_refl _) _
  have hbox : Box (w.alloc (.cells #[.int .i64 rn, .int .i64 cn, .slice a la ca, .slice b lb cb] 44)) w.heap.size [.int .i64 rn, .int .i64 cn, .slice a la ca, .slice b lb cb] := Box.new _ _ _
  have hs1 := h.below bw
  obtain ⟨W1, hW1⟩ : ∃ W1, w.alloc (.cells #[.int .i64 rn, .int .i64 cn, .slice a la ca, .slice b lb cb] 44) = W1 := ⟨_, rfl⟩
  have hsz : W1.heap.size = w.heap.size + 1 := by rw [← hW1]; simp
  rw [hW1] at bw hbox hs1
  have HW := hid hW1
  have HB := hid bw
  have HX := hid hbox
  have HS := hid hs1
  have HSZ := hid hsz
  clear hf bw hbox hs1 h hla hW1 hsz
  go_enter Try.func93, Try.ntmps93
  go_wp2_with fail
  go_loopw [5, 6, 10, 13, 30] (fun v x i y z wr => ∃ j : Nat, j ≤ rn ∧ i = .int .i64 j ∧ wr.ownsRow W1.heap.size 2 1 v (bR f j).length ((bR f j).map (Value.int .i64)) ∧ Below W1.heap.size W1 wr) (fun _ _ i _ _ _ => rn - (intOf i).toNat)
  case atStart =>
    refine ⟨0, Nat.zero_le _, rfl, ?_, ?_⟩
    · have := World.ownsRow_made (size := 1) (e := 2) W1 #[] 0 (Nat.le_refl _) (by unfold maxLen; omega) rfl
      rw [HSZ.out, ← HW.out] at this
      rw [HSZ.out]
      exact this
    · rw [← HW.out]; exact (Below.refl _ _).alloc (Nat.le_refl _) _
  case round =>
    obtain ⟨j, hj, rfl, hown, hbel⟩ := hrel
    have HOWN := hid hown
    have HBEL := hid hbel
    have hbx := HX.out.below hbel
    have f0 := (hbx.2 0 _ rfl).1
    have f1 := (hbx.2 1 _ rfl).1
    have f2 := (hbx.2 2 _ rfl).1
    have f3 := (hbx.2 3 _ rfl).1
    obtain ⟨a1, cap1, rfl, hcap, hob⟩ := OwB.of_row hown
    have HOB := hid hob
    clear hown hbel hob hbx
    have hS : ∀ w', Below wr.heap.size wr w' → SlV (Value.int .i64) w' a la xs := fun w' hb => (HS.out.below HBEL.out).below hb
    have HS2 := hid hS
    clear hS
    have hlen := bR_len f j
    obtain ⟨n, hn⟩ : ∃ n, (bR f j).length = n := ⟨_, rfl⟩
    have hn6 : n ≤ 6 := by omega
    rw [hn]
    have HN := hid hn
    clear hlen hn
    by_cases hlt : j < rn
    · by_cases hj0 : j = 0
      · have hn0 : n = 0 := by rw [← HN.out, hj0]; rfl
        subst hn0
        have HOWN1 : Hid (wr.ownsRow W1.heap.size 2 1 (.slice a1 0 cap1) 0 (([] : List Int).map (Value.int .i64))) := hid (by have := HOWN.out; rw [HN.out] at this; rw [List.eq_nil_of_length_eq_zero HN.out] at this; exact this)
        have HR : Hid (bR f (j + 1) = [] ++ [(j : Int)]) := hid (by rw [hj0]; rfl)
        have HJ := hid hj0
        clear hj0
        go_wp2_with fail
        go_quiet (fail)
        go_wp2_with fail
        go_quiet (fail)
        go_wp2_with (at_builtin; refine wpList_appI rfl _ _ rfl W1 _ 0 [] j rfl (row_below HOWN1.out (by repeat (first | exact Below.refl _ _ | with_reducible assumption | refine below_drewN ?_ _ | refine Below.drew ?_))) (below_to HBEL.out (by repeat (first | exact Below.refl _ _ | with_reducible assumption | refine below_drewN ?_ _ | refine Below.drew ?_))) (by omega) rfl ?_; intro v' w1 hown1 hb1)
        have hown2 : w1.ownsRow W1.heap.size 2 1 v' (bR f (j + 1)).length ((bR f (j + 1)).map (Value.int .i64)) := by
          rw [HR.out]; simpa [HN.out] using hown1
        have HO2 := hid hown2
        have HB2 := hid hb1
        clear hown1 hown2 hb1
        go_wp2_with fail
        go_roundw
        case rel => exact ⟨j + 1, by omega, by go_num, HO2.out, HB2.out⟩
        case measure => simp [intOf]; omega
      · obtain ⟨j', hj'⟩ : ∃ j', j' + 1 = j := ⟨j - 1, by omega⟩
        have hbn := (bR_spec f j').2
        obtain ⟨m, hm1, hm, hfm⟩ := bR_head f j'
        rw [hj'] at hbn hm
        have hn0 : 0 < n := by
          have h2 := HN.out
          rcases Nat.eq_zero_or_pos n with h | h
          · rw [h] at h2; exact absurd (List.eq_nil_of_length_eq_zero h2) hbn
          · exact h
        have hm2 : m < rn := by omega
        obtain ⟨g, ha1, hg1, hg2, hg3, hgc⟩ := HOB.out.2 (by rw [HN.out]; exact hn0)
        obtain rfl := ha1
        have hc0 : wr.cell? ⟨g, 0, none⟩ = some (.int .i64 m) := by have := (hgc 0 (by rw [HN.out]; exact hn0)).1; rw [hm] at this; exact this
        have HOWN1 : Hid (wr.ownsRow W1.heap.size 2 1 (.slice (some ⟨g, 0, none⟩) n cap1) n ((bR f j).map (Value.int .i64))) := hid (by have := HOWN.out; rw [HN.out] at this; exact this)
        have HK : Hid (∀ w', Below wr.heap.size wr w' → Below wr.heap.size wr w' ∧ w'.cell? ⟨w.heap.size, 0, none⟩ = some (.int .i64 rn) ∧ w'.cell? ⟨w.heap.size, 1, none⟩ = some (.int .i64 cn) ∧ w'.cell? ⟨w.heap.size, 2, none⟩ = some (.slice a la ca) ∧ w'.cell? ⟨w.heap.size, 3, none⟩ = some (.slice b lb cb) ∧ w'.cell? ⟨g, 0, none⟩ = some (.int .i64 m)) := hid (fun w' hb => by
          have hx := (HX.out.below HBEL.out).below hb
          exact ⟨hb, (hx.2 0 _ rfl).1, (hx.2 1 _ rfl).1, (hx.2 2 _ rfl).1, (hx.2 3 _ rfl).1, (hb.cell (p := ⟨g, 0, none⟩) hg3).trans hc0⟩)
        have hgn : (0 : Int) < (n : Int) := by omega
        have hmt : ((bR f j).getD 0 0).toNat = m := by rw [hm]; simp
        have HRD : Hid (bR f (j + 1) = if bR f j ≠ [] ∧ f j < f m then bR f j else if bR f j ≠ [] ∧ f m < f j then [(j : Int)] else bR f j ++ [(j : Int)]) := hid (by rw [bR, hmt])
        have HBN := hid hbn
        have HJ := hid hj0
        clear hgc hm hfm hm1 hmt hbn hj' hj0
        obtain ⟨F1, hF1⟩ : ∃ F, f j = F := ⟨_, rfl⟩
        obtain ⟨F2, hF2⟩ : ∃ F, f m = F := ⟨_, rfl⟩
        have HGJ : Hid (∀ w', Below wr.heap.size wr w' → Calls Try.prog 92 #[.agg #[.int .i64 rn, .int .i64 cn, .slice a la ca, .slice b lb cb], .int .i64 j, .int .i64 k] w' fun e w'' => e = .returned (.int .i64 F1) ∧ Below w'.heap.size w' w'') := hid (fun w' hb => by rw [← hF1]; exact HGA.out j w' hlt (HS2.out _ hb))
        have HGM : Hid (∀ w', Below wr.heap.size wr w' → Calls Try.prog 92 #[.agg #[.int .i64 rn, .int .i64 cn, .slice a la ca, .slice b lb cb], .int .i64 m, .int .i64 k] w' fun e w'' => e = .returned (.int .i64 F2) ∧ Below w'.heap.size w' w'') := hid (fun w' hb => by rw [← hF2]; exact HGA.out m w' hm2 (HS2.out _ hb))
        rw [hF1, hF2] at HRD
        clear hF1 hF2
        rcases Int.lt_trichotomy F1 F2 with hlt2 | hlt2 | hlt2
        · have HR : Hid (bR f (j + 1) = bR f j) := hid (by rw [HRD.out, if_pos ⟨HBN.out, hlt2⟩])
          go_wp2_with fail
          go_region_held3 (fun w' => Below wr.heap.size wr w' ∧ w'.cell? ⟨w.heap.size, 0, none⟩ = some (.int .i64 rn) ∧ w'.cell? ⟨w.heap.size, 1, none⟩ = some (.int .i64 cn) ∧ w'.cell? ⟨w.heap.size, 2, none⟩ = some (.slice a la ca) ∧ w'.cell? ⟨w.heap.size, 3, none⟩ = some (.slice b lb cb) ∧ w'.cell? ⟨g, 0, none⟩ = some (.int .i64 m)) ((go_split_ands; exact HK.out _ (by first | with_reducible assumption | exact (Below.refl _ _).drew | exact Below.drew (by with_reducible assumption) | exact below_to (by with_reducible assumption) (by with_reducible assumption))))
            (first
              | (go_at_call 92; with_reducible refine Calls.mono (HGJ.out _ ?_) ?_; (· (go_split_ands; with_reducible assumption)); rintro e w' ⟨rfl, bq⟩)
              | (go_at_call 92; with_reducible refine Calls.mono (HGM.out _ ?_) ?_; (· (go_split_ands; with_reducible assumption)); rintro e w' ⟨rfl, bq⟩))
          go_split_ands
          rename Below wr.heap.size wr _ => hb1
          have HBQ1 := hid hb1
          clear hb1
          go_wp2_with fail
          go_roundw
          case rel => exact ⟨j + 1, by omega, by go_num, by rw [HR.out, HN.out]; exact row_below HOWN1.out HBQ1.out, below_to HBEL.out HBQ1.out⟩
          case measure => simp [intOf]; omega
        · have HR : Hid (bR f (j + 1) = bR f j ++ [(j : Int)]) := hid (by rw [HRD.out, if_neg (by omega), if_neg (by omega)])
          go_wp2_with fail
          go_region_held3 (fun w' => Below wr.heap.size wr w' ∧ w'.cell? ⟨w.heap.size, 0, none⟩ = some (.int .i64 rn) ∧ w'.cell? ⟨w.heap.size, 1, none⟩ = some (.int .i64 cn) ∧ w'.cell? ⟨w.heap.size, 2, none⟩ = some (.slice a la ca) ∧ w'.cell? ⟨w.heap.size, 3, none⟩ = some (.slice b lb cb) ∧ w'.cell? ⟨g, 0, none⟩ = some (.int .i64 m)) ((go_split_ands; exact HK.out _ (by first | with_reducible assumption | exact (Below.refl _ _).drew | exact Below.drew (by with_reducible assumption) | exact below_to (by with_reducible assumption) (by with_reducible assumption))))
            (first
              | (go_at_call 92; with_reducible refine Calls.mono (HGJ.out _ ?_) ?_; (· (go_split_ands; with_reducible assumption)); rintro e w' ⟨rfl, bq⟩)
              | (go_at_call 92; with_reducible refine Calls.mono (HGM.out _ ?_) ?_; (· (go_split_ands; with_reducible assumption)); rintro e w' ⟨rfl, bq⟩))
          go_split_ands
          rename Below wr.heap.size wr _ => hb1
          have HBQ1 := hid hb1
          clear hb1
          go_wp2_with fail
          go_region_held3 (fun w' => Below wr.heap.size wr w' ∧ w'.cell? ⟨w.heap.size, 0, none⟩ = some (.int .i64 rn) ∧ w'.cell? ⟨w.heap.size, 1, none⟩ = some (.int .i64 cn) ∧ w'.cell? ⟨w.heap.size, 2, none⟩ = some (.slice a la ca) ∧ w'.cell? ⟨w.heap.size, 3, none⟩ = some (.slice b lb cb) ∧ w'.cell? ⟨g, 0, none⟩ = some (.int .i64 m)) ((go_split_ands; exact HK.out _ (by first | with_reducible assumption | exact (Below.refl _ _).drew | exact Below.drew HBQ1.out | exact Below.drew (by with_reducible assumption) | exact below_to (by with_reducible assumption) (by with_reducible assumption))))
            (first
              | (go_at_call 92; with_reducible refine Calls.mono (HGJ.out _ ?_) ?_; (· (go_split_ands; with_reducible assumption)); rintro e w' ⟨rfl, bq⟩)
              | (go_at_call 92; with_reducible refine Calls.mono (HGM.out _ ?_) ?_; (· (go_split_ands; with_reducible assumption)); rintro e w' ⟨rfl, bq⟩))
          go_split_ands
          rename Below wr.heap.size wr _ => hb2
          have HBQ2 := hid hb2
          clear hb2
          go_wp2_with (at_builtin; refine wpList_appI rfl _ _ rfl W1 _ n (bR f j) j rfl (row_below HOWN1.out HBQ2.out) (below_to HBEL.out HBQ2.out) (by omega) rfl ?_; intro v' w1 hown1 hb1)
          have hown2 : w1.ownsRow W1.heap.size 2 1 v' (bR f (j + 1)).length ((bR f (j + 1)).map (Value.int .i64)) := by
            rw [HR.out]; simpa [HN.out] using hown1
          have HO2 := hid hown2
          have HB2 := hid hb1
          clear hown1 hown2 hb1
          go_wp2_with fail
          go_roundw
          case rel => exact ⟨j + 1, by omega, by go_num, HO2.out, HB2.out⟩
          case measure => simp [intOf]; omega
        · have HR : Hid (bR f (j + 1) = [] ++ [(j : Int)]) := hid (by rw [HRD.out, if_neg (by omega), if_pos ⟨HBN.out, hlt2⟩]; rfl)
          go_wp2_with fail
          go_region_held3 (fun w' => Below wr.heap.size wr w' ∧ w'.cell? ⟨w.heap.size, 0, none⟩ = some (.int .i64 rn) ∧ w'.cell? ⟨w.heap.size, 1, none⟩ = some (.int .i64 cn) ∧ w'.cell? ⟨w.heap.size, 2, none⟩ = some (.slice a la ca) ∧ w'.cell? ⟨w.heap.size, 3, none⟩ = some (.slice b lb cb) ∧ w'.cell? ⟨g, 0, none⟩ = some (.int .i64 m)) ((go_split_ands; exact HK.out _ (by first | with_reducible assumption | exact (Below.refl _ _).drew | exact Below.drew (by with_reducible assumption) | exact below_to (by with_reducible assumption) (by with_reducible assumption))))
            (first
              | (go_at_call 92; with_reducible refine Calls.mono (HGJ.out _ ?_) ?_; (· (go_split_ands; with_reducible assumption)); rintro e w' ⟨rfl, bq⟩)
              | (go_at_call 92; with_reducible refine Calls.mono (HGM.out _ ?_) ?_; (· (go_split_ands; with_reducible assumption)); rintro e w' ⟨rfl, bq⟩))
          go_split_ands
          rename Below wr.heap.size wr _ => hb1
          have HBQ1 := hid hb1
          clear hb1
          go_wp2_with fail
          go_region_held3 (fun w' => Below wr.heap.size wr w' ∧ w'.cell? ⟨w.heap.size, 0, none⟩ = some (.int .i64 rn) ∧ w'.cell? ⟨w.heap.size, 1, none⟩ = some (.int .i64 cn) ∧ w'.cell? ⟨w.heap.size, 2, none⟩ = some (.slice a la ca) ∧ w'.cell? ⟨w.heap.size, 3, none⟩ = some (.slice b lb cb) ∧ w'.cell? ⟨g, 0, none⟩ = some (.int .i64 m)) ((go_split_ands; exact HK.out _ (by first | with_reducible assumption | exact (Below.refl _ _).drew | exact Below.drew HBQ1.out | exact Below.drew (by with_reducible assumption) | exact below_to (by with_reducible assumption) (by with_reducible assumption))))
            (first
              | (go_at_call 92; with_reducible refine Calls.mono (HGJ.out _ ?_) ?_; (· (go_split_ands; with_reducible assumption)); rintro e w' ⟨rfl, bq⟩)
              | (go_at_call 92; with_reducible refine Calls.mono (HGM.out _ ?_) ?_; (· (go_split_ands; with_reducible assumption)); rintro e w' ⟨rfl, bq⟩))
          go_split_ands
          rename Below wr.heap.size wr _ => hb2
          have HBQ2 := hid hb2
          clear hb2
          have HOWN3 : Hid (World.ownsRow _ W1.heap.size 2 1 (.slice (some ⟨g, 0, none⟩) 0 cap1) 0 (([] : List Int).map (Value.int .i64))) := hid (row_cut (row_below HOWN1.out HBQ2.out))
          have HBL3 := hid (below_to HBEL.out HBQ2.out)
          go_wp2_with (at_builtin; refine wpList_appI rfl (.tmp 49) (.tmp 51) rfl W1 (.slice (some ⟨g, 0, none⟩) 0 cap1) 0 [] j rfl HOWN3.out HBL3.out (by omega) rfl ?_; intro v' w1 hown1 hb1)
          have hown2 : w1.ownsRow W1.heap.size 2 1 v' (bR f (j + 1)).length ((bR f (j + 1)).map (Value.int .i64)) := by
            rw [HR.out]; simpa [HN.out] using hown1
          have HO2 := hid hown2
          have HB2 := hid hb1
          clear hown1 hown2 hb1
          go_wp2_with fail
          go_roundw
          case rel => exact ⟨j + 1, by omega, by go_num, HO2.out, HB2.out⟩
          case measure => simp [intOf]; omega
    · obtain rfl : j = rn := by omega
      go_wp2_with fail
      go_ret
      exact ⟨_, rfl, by have := HOWN.out; rw [HN.out] at this; rw [HN.out]; exact row_mono this (by have := HSZ.out; omega), below_to HB.out HBEL.out⟩
theorem l00Max (a b : Int) (w : World) : Calls Try.prog 91 #[.int .i64 a, .int .i64 b] w fun e w' => e = .returned (.int .i64 (max a b)) ∧ w' = w := by
  by_cases h : b < a
  · rw [Int.max_eq_left (by omega)]
    go_enter Try.func91, Try.ntmps91
    go_wp2_with fail
    go_ret
    exact ⟨rfl, rfl⟩
  · rw [Int.max_eq_right (by omega)]
    go_enter Try.func91, Try.ntmps91
    go_wp2_with fail
    go_ret
    exact ⟨rfl, rfl⟩
/-- The columns' greatest values. -/
def colMax (xs : List Int) (cn rn : Nat) (k : Nat) : Int := mxF (fun i => at2 xs cn i k) (rn - 1)
def safeCol (xs : List Int) (rn cn : Nat) : Int × Int := lowF (colMax xs cn rn) cn
set_option maxHeartbeats 4000000 in
theorem spSafeColumn (r c : Int) (a : Option Addr) (la ca : Nat) (xs : List Int) (b : Option Addr) (lb cb : Nat) (ys : List Int) (w : World) (h : SlV (Value.int .i64) w a la xs) (g : SlV (Value.int .i64) w b lb ys) (hla : la ≤ 1048576) (hlb : lb ≤ 1048576) : Calls Try.prog 49 #[.agg #[.int .i64 r, .int .i64 c, .slice a la ca, .slice b lb cb]] w (if validG r c xs ys then RetV3 (safeCol xs r.toNat c.toNat).1 (safeCol xs r.toNat c.toNat).2 true w else RetV3 0 0 false w) := by
  have bw : Below w.heap.size w (w.alloc (.cells #[.int .i64 r, .int .i64 c, .slice a la ca, .slice b lb cb] 44)) := Below.alloc (Below.refl _ _) (Nat.le_refl _) _
  have hbox : Box (w.alloc (.cells #[.int .i64 r, .int .i64 c, .slice a la ca, .slice b lb cb] 44)) w.heap.size [.int .i64 r, .int .i64 c, .slice a la ca, .slice b lb cb] := Box.new _ _ _
  have HIS := hid (l02Is r c a la ca xs b lb cb ys _ _ hbox (h.below bw) (g.below bw) hla hlb)
  cases hv : validG r c xs ys with
  | false =>
    rw [if_neg (by simp)]
    rw [hv] at HIS
    go_enter Try.func49, Try.ntmps49
    go_wp2_with fail
    refine HIS.out.mono ?_
    rintro e w' ⟨rfl, n, rfl⟩
    go_wp2_with fail
    go_ret3
    exact ⟨rfl, below_drewN bw n⟩
  | true =>
    rw [if_pos rfl]
    rw [hv] at HIS
    obtain ⟨rn, cn, rfl, rfl, hr1, hr2, hc1, hc2, h5, h7, h6, h8⟩ := validG_parts hv
    have HLA : Hid (la = rn * cn) := hid (by rw [← h.1]; exact h5)
    simp only [Int.toNat_natCast]
    have HB := hid bw
    have HX := hid hbox
    have H := hid h
    clear h5 h6 h7 h8 hv hbox h g bw hla hlb
    have hl36 : la ≤ 36 := by rw [HLA.out]; exact mul36 hr2 hc2
    have hl0 : 0 < la := by rw [HLA.out]; exact Nat.mul_pos hr1 hc1
    obtain ⟨G, hG⟩ : ∃ G, colMax xs cn rn = G := ⟨_, rfl⟩
    rw [safeCol, hG]
    have HG := hid hG
    clear hG
    go_enter Try.func49, Try.ntmps49
    go_wp2_with fail
    refine HIS.out.mono ?_
    rintro e wq ⟨rfl, n, hwq⟩
    have HB2 : Hid (Below w.heap.size w wq) := hid (by rw [hwq]; exact below_drewN HB.out n)
    have HX2 : Hid (Box wq w.heap.size [.int .i64 rn, .int .i64 cn, .slice a la ca, .slice b lb cb]) := hid (by rw [hwq]; exact HX.out.dr n)
    have HS := hid (H.out.below HB2.out)
    clear hwq
    have f0 := (HX2.out.2 0 _ rfl).1
    have f1 := (HX2.out.2 1 _ rfl).1
    have f2 := (HX2.out.2 2 _ rfl).1
    obtain ⟨b1, off, rfl, hb1, hc⟩ := HS.out.2 hl0
    have HC := hid hc
    clear hc
    go_wp2_with fail
    go_loopw [5, 6, 7, 8, 9] (fun bb m i l q wr => ∃ j : Nat, j ≤ cn ∧ i = .int .i64 j ∧ bb = .int .i64 (lowF G j).1 ∧ m = .int .i64 (lowF G j).2 ∧ wr = wq) (fun _ _ i _ _ _ => cn - (intOf i).toNat)
    case atStart => exact ⟨0, Nat.zero_le _, rfl, rfl, rfl, rfl⟩
    case round =>
      obtain ⟨j, hj, rfl, rfl, rfl, rfl⟩ := hrel
      obtain ⟨B, hB⟩ : ∃ B, (lowF G j).1 = B := ⟨_, rfl⟩
      obtain ⟨M, hM⟩ : ∃ M, (lowF G j).2 = M := ⟨_, rfl⟩
      have HBB := hid hB
      have HM := hid hM
      rw [hB, hM]
      clear hB hM
      by_cases hlt : j < cn
      · have hjla : j < la := by
          have := idx_lt (i := 0) hr1 hlt
          have := HLA.out; omega
        have hd0 : wr.cell? ⟨b1, off + j, none⟩ = some (.int .i64 (xs.getD j 0)) := HC.out j hjla
        obtain ⟨v0, hv0⟩ : ∃ v, xs.getD j 0 = v := ⟨_, rfl⟩
        rw [hv0] at hd0
        have HV0 := hid hv0
        clear hv0
        go_wp2_with fail
        go_loopw [8, 9] (fun l q w2 => ∃ p : Nat, 1 ≤ p ∧ p ≤ rn ∧ q = .int .i64 p ∧ l = .int .i64 (mxF (fun i => at2 xs cn i j) (p - 1)) ∧ w2 = wr) (fun _ q _ => rn - (intOf q).toNat)
        case atStart => exact ⟨1, Nat.le_refl _, hr1, rfl, by rw [show 1 - 1 = 0 from rfl, mxF, at2, Nat.zero_mul, Nat.zero_add, HV0.out], rfl⟩
        case round =>
          obtain ⟨p, hp1, hp2, rfl, rfl, rfl⟩ := hrel
          obtain ⟨L, hL⟩ : ∃ L, mxF (fun i => at2 xs cn i j) (p - 1) = L := ⟨_, rfl⟩
          rw [hL]
          have HL := hid hL
          clear hL
          by_cases hp : p < rn
          · obtain ⟨z, hz⟩ : ∃ z, p * cn = z := ⟨_, rfl⟩
            obtain ⟨s, hs⟩ : ∃ s, z + j = s := ⟨_, rfl⟩
            have hs1 : s < la := by
              have := idx_lt hp hlt
              have := HLA.out; omega
            have hzi : (p : Int) * (cn : Int) = (z : Int) := by rw [← hz]; push_cast; rfl
            have hsi : (z : Int) + (j : Int) = (s : Int) := by rw [← hs]; push_cast; rfl
            have hzw : IntKind.i64.wrap (z : Int) = (z : Int) := IntWalk.i64_in _ (by omega)
            have hsw : IntKind.i64.wrap (s : Int) = (s : Int) := IntWalk.i64_in _ (by omega)
            have hd1 := HC.out s hs1
            change _ = some (Value.int .i64 (xs.getD s 0)) at hd1
            have HV1 : Hid (at2 xs cn p j = xs.getD s 0) := hid (by rw [at2, hz, hs])
            have hz36 : z ≤ 36 := by omega
            have hi2 : (0 : Int) ≤ (s : Int) := by omega
            have hi3 : (s : Int) < (la : Int) := by omega
            clear hz hs
            generalize xs.getD s 0 = v1 at *
            go_wp2_with (go_at_call 91; refine (l00Max _ _ _).mono ?_; rintro e w' ⟨rfl, rfl⟩)
            go_roundw
            case rel => exact ⟨p + 1, by omega, by omega, by go_num, by
              have e : mxF (fun i => at2 xs cn i j) (p + 1 - 1) = max (mxF (fun i => at2 xs cn i j) (p - 1)) (at2 xs cn p j) := by
                obtain ⟨q, rfl⟩ : ∃ q, p = q + 1 := ⟨p - 1, by omega⟩
                rfl
              rw [e, HL.out, HV1.out], by first | rfl | trivial⟩
            case measure => simp [intOf]; omega
          · obtain rfl : p = rn := by omega
            have hgj : Hid (G j = L) := hid (by rw [← HG.out, ← HL.out]; rfl)
            by_cases hj0 : j = 0
            · have h0b : ((j : Int) == 0) = true := by simp; omega
              have ht : Hid (lowF G (j + 1) = ((j : Int), L)) := hid (by rw [lowF, HM.out, hgj.out, if_pos (.inl hj0)])
              go_wp2_with fail
              go_roundw
              case rel => exact ⟨j + 1, by omega, by go_num, by rw [ht.out]; try (rw [hj0]; rfl), by rw [ht.out], by first | rfl | trivial⟩
              case measure => simp [intOf]; omega
            · have h0b : ((j : Int) == 0) = false := by simp; omega
              by_cases hup : L < M
              · have ht : Hid (lowF G (j + 1) = ((j : Int), L)) := hid (by rw [lowF, HM.out, hgj.out, if_pos (.inr hup)])
                go_wp2_with fail
                go_roundw
                case rel => exact ⟨j + 1, by omega, by go_num, by rw [ht.out], by rw [ht.out], by first | rfl | trivial⟩
                case measure => simp [intOf]; omega
              · have ht : Hid (lowF G (j + 1) = lowF G j) := hid (by rw [lowF, HM.out, hgj.out, if_neg (by omega)])
                go_wp2_with fail
                go_roundw
                case rel => exact ⟨j + 1, by omega, by go_num, by rw [ht.out, HBB.out], by rw [ht.out, HM.out], by first | rfl | trivial⟩
                case measure => simp [intOf]; omega
      · obtain rfl : j = cn := by omega
        go_wp2_with fail
        go_ret3
        exact ⟨by rw [HBB.out, HM.out]; rfl, HB2.out⟩
set_option maxRecDepth 100000 in
set_option maxHeartbeats 4000000 in
theorem imSafeColumn (r c : Int) (a : Option Addr) (la ca : Nat) (xs : List Int) (b : Option Addr) (lb cb : Nat) (ys : List Int) (w : World) (h : SlV (Value.int .i64) w a la xs) (g : SlV (Value.int .i64) w b lb ys) (hla : la ≤ 1048576) (hlb : lb ≤ 1048576) : Calls Try.prog 50 #[.agg #[.int .i64 r, .int .i64 c, .slice a la ca, .slice b lb cb]] w (if validG r c xs ys then RetV3 (safeCol xs r.toNat c.toNat).1 (safeCol xs r.toNat c.toNat).2 true w else RetV3 0 0 false w) := by
  have bw : Below w.heap.size w (w.alloc (.cells #[.int .i64 r, .int .i64 c, .slice a la ca, .slice b lb cb] 44)) := Below.alloc (Below.refl _ _) (Nat.le_refl _) _
  have hbox : Box (w.alloc (.cells #[.int .i64 r, .int .i64 c, .slice a la ca, .slice b lb cb] 44)) w.heap.size [.int .i64 r, .int .i64 c, .slice a la ca, .slice b lb cb] := Box.new _ _ _
  have HIS := hid (imValidG r c a la ca xs b lb cb ys _ (h.below bw) (g.below bw) hla hlb)
  cases hv : validG r c xs ys with
  | false =>
    rw [if_neg (by simp)]
    rw [hv] at HIS
    go_enter Try.func50, Try.ntmps50
    go_wp2_with fail
    refine HIS.out.mono ?_
    rintro e w1 ⟨rfl, b1⟩
    have bw1 := below_to bw b1
    go_wp2_with fail
    go_ret3
    exact ⟨rfl, bw1⟩
  | true =>
    rw [if_pos rfl]
    rw [hv] at HIS
    obtain ⟨rn, cn, rfl, rfl, hr1, hr2, hc1, hc2, h5, h7, h6, h8⟩ := validG_parts hv
    have HLA : Hid (la = rn * cn) := hid (by rw [← h.1]; exact h5)
    simp only [Int.toNat_natCast]
    have HB := hid bw
    have HX := hid hbox
    have H := hid h
    clear h5 h6 h7 h8 hv hbox h g bw hla hlb
    obtain ⟨G, hG⟩ : ∃ G, colMax xs cn rn = G := ⟨_, rfl⟩
    rw [safeCol, hG]
    have HG := hid hG
    clear hG
    go_enter Try.func50, Try.ntmps50
    go_wp2_with fail
    refine HIS.out.mono ?_
    rintro e wq ⟨rfl, bq⟩
    have HB2 : Hid (Below w.heap.size w wq) := hid (below_to HB.out bq)
    have HX2 : Hid (Box wq w.heap.size [.int .i64 rn, .int .i64 cn, .slice a la ca, .slice b lb cb]) := hid (HX.out.below bq)
    have HS := hid (H.out.below HB2.out)
    clear bq
    have f1 := (HX2.out.2 1 _ rfl).1
    go_wp2_with fail
    clear f1
    go_loopw [5, 6, 7, 8, 14] (fun bb m x l i wr => ∃ j : Nat, j ≤ cn ∧ i = .int .i64 j ∧ bb = .int .i64 (lowF G j).1 ∧ m = .int .i64 (lowF G j).2 ∧ Below wq.heap.size wq wr) (fun _ _ _ _ i _ => cn - (intOf i).toNat)
    case atStart => exact ⟨0, Nat.zero_le _, rfl, rfl, rfl, Below.refl _ _⟩
    case round =>
      obtain ⟨j, hj, rfl, rfl, rfl, hbr⟩ := hrel
      have HBR := hid hbr
      clear hbr
      obtain ⟨B, hB⟩ : ∃ B, (lowF G j).1 = B := ⟨_, rfl⟩
      obtain ⟨M, hM⟩ : ∃ M, (lowF G j).2 = M := ⟨_, rfl⟩
      have HBB := hid hB
      have HM := hid hM
      rw [hB, hM]
      clear hB hM
      by_cases hlt : j < cn
      · obtain ⟨rp, hrp⟩ : ∃ rp, rp + 1 = rn := ⟨rn - 1, by omega⟩
        obtain ⟨m, hm1, hm2, hm3⟩ := bR_head (fun i => at2 xs cn i j) rp
        have hlen0 : 0 < (bR (fun i => at2 xs cn i j) rn).length := by
          have := (bR_spec (fun i => at2 xs cn i j) rp).2
          rw [hrp] at this
          exact List.length_pos_iff.mpr this
        rw [hrp] at hm2
        have hmr : m < rn := by omega
        have hval : at2 xs cn m j = G j := by
          rw [← HG.out]
          simp only [colMax]
          rw [hm3, ← hrp]; rfl
        obtain ⟨L, hL⟩ : ∃ L, G j = L := ⟨_, rfl⟩
        have hgj := hid hL
        rw [hL] at hval
        have HBEST : Hid (∀ w', Below wr.heap.size wr w' → Calls Try.prog 93 #[.agg #[.int .i64 rn, .int .i64 cn, .slice a la ca, .slice b lb cb], .int .i64 j] w' fun e w'' => ∃ g nn cap, e = .returned (.slice (some ⟨g, 0, none⟩) nn cap) ∧ 0 < nn ∧ w''.cell? ⟨g, 0, none⟩ = some (.int .i64 m) ∧ Below w'.heap.size w' w'') := hid (fun w' hb => (imBest rn cn a la ca xs b lb cb j w' hr2 hc2 HLA.out ((HS.out.below HBR.out).below hb) hlt).mono (by
          rintro e w'' ⟨v, rfl, hrow, hbel⟩
          obtain ⟨a', cap', rfl, hcap, hob⟩ := OwB.of_row hrow
          obtain ⟨g, rfl, _, _, _, hc⟩ := hob.2 hlen0
          refine ⟨g, _, _, rfl, hlen0, ?_, hbel⟩
          have := (hc 0 hlen0).1
          rw [hm2] at this
          exact this))
        have HGA : Hid (∀ w', Below wr.heap.size wr w' → Calls Try.prog 92 #[.agg #[.int .i64 rn, .int .i64 cn, .slice a la ca, .slice b lb cb], .int .i64 m, .int .i64 j] w' fun e w'' => e = .returned (.int .i64 L) ∧ Below w'.heap.size w' w'') := hid (fun w' hb => by
          rw [← hval]
          exact gA rn cn a la ca xs b lb cb m j w' hr2 hc2 HLA.out ((HS.out.below HBR.out).below hb) hmr hlt)
        have HK : Hid (∀ w', Below wr.heap.size wr w' → Below wr.heap.size wr w' ∧ w'.cell? ⟨w.heap.size, 0, none⟩ = some (.int .i64 rn) ∧ w'.cell? ⟨w.heap.size, 1, none⟩ = some (.int .i64 cn) ∧ w'.cell? ⟨w.heap.size, 2, none⟩ = some (.slice a la ca) ∧ w'.cell? ⟨w.heap.size, 3, none⟩ = some (.slice b lb cb)) := hid (fun w' hb => by
          have hx := (HX2.out.below HBR.out).below hb
          exact ⟨hb, (hx.2 0 _ rfl).1, (hx.2 1 _ rfl).1, (hx.2 2 _ rfl).1, (hx.2 3 _ rfl).1⟩)
        clear hm1 hm2 hm3 hval hL hlen0 hrp
        obtain ⟨-, f0, f1, f2, f3⟩ := HK.out _ (Below.refl _ _)
        go_wp2_with fail
        go_region_with (first
          | (go_at_call 93; with_reducible refine Calls.mono (HBEST.out _ (Below.refl _ _).drew) ?_; rintro e w3 ⟨g, nn, cap, rfl, hnn, hcell, bq⟩; have hnni : (0 : Int) < (nn : Int) := Int.natCast_pos.mpr hnn; obtain ⟨-, f0, f1, f2, f3⟩ := HK.out _ (below_to (Below.refl wr.heap.size wr).drew bq); have HBQ1 := hid (below_to (Below.refl wr.heap.size wr).drew bq); clear bq)
          | (go_at_call 92; with_reducible refine Calls.mono (HGA.out _ HBQ1.out) ?_; rintro e w4 ⟨rfl, bq⟩; have HBQ := hid (below_to HBR.out (below_to HBQ1.out bq)); clear bq))
        all_goals by_cases hj0 : j = 0
        all_goals first
          | (have h0b : ((j : Int) == 0) = true := by simp; omega
             have ht : Hid (lowF G (j + 1) = ((j : Int), L)) := hid (by rw [lowF, HM.out, hgj.out, if_pos (.inl hj0)])
             go_wp2_with fail
             go_roundw
             case rel => exact ⟨j + 1, by omega, by go_num, by rw [ht.out]; try (rw [hj0]; rfl), by rw [ht.out], HBQ.out⟩
             case measure => simp [intOf]; omega)
          | (have h0b : ((j : Int) == 0) = false := by simp; omega
             by_cases hup : L < M
             · have ht : Hid (lowF G (j + 1) = ((j : Int), L)) := hid (by rw [lowF, HM.out, hgj.out, if_pos (.inr hup)])
               go_wp2_with fail
               go_roundw
               case rel => exact ⟨j + 1, by omega, by go_num, by rw [ht.out], by rw [ht.out], HBQ.out⟩
               case measure => simp [intOf]; omega
             · have ht : Hid (lowF G (j + 1) = lowF G j) := hid (by rw [lowF, HM.out, hgj.out, if_neg (by omega)])
               go_wp2_with fail
               go_roundw
               case rel => exact ⟨j + 1, by omega, by go_num, by rw [ht.out, HBB.out], by rw [ht.out, HM.out], HBQ.out⟩
               case measure => simp [intOf]; omega)
      · obtain rfl : j = cn := by omega
        go_wp2_with fail
        go_ret3
        exact ⟨by rw [HBB.out, HM.out]; rfl, below_to HB2.out HBR.out⟩
theorem bothSafeColumn (r : Int) (c : Int) (_ : (Lit.int .i64 r).wf = true) (_ : (Lit.int .i64 c).wf = true) (la : Nat) (xs : List Int) (hla : la ≤ 1048576) (_ : ∀ n ∈ xs, (Lit.int .i64 n).wf = true) (lb : Nat) (ys : List Int) (hlb : lb ≤ 1048576) (_ : ∀ n ∈ ys, (Lit.int .i64 n).wf = true) :
    ∃ (F0 F1 : Int) (F2 : Bool), ∀ (a : Option Addr) (ca : Nat) (b : Option Addr) (cb : Nat) (w : World), SlV (Value.int .i64) w a la xs → SlV (Value.int .i64) w b lb ys →
      Calls Try.prog 49 #[.agg #[.int .i64 r, .int .i64 c, .slice a la ca, .slice b lb cb]] w (RetV3 F0 F1 F2 w) ∧ Calls Try.prog 50 #[.agg #[.int .i64 r, .int .i64 c, .slice a la ca, .slice b lb cb]] w (RetV3 F0 F1 F2 w) := by
  cases hv : validG r c xs ys with
  | false =>
    refine ⟨0, 0, false, fun a ca b cb w h g => ⟨?_, ?_⟩⟩
    · have := spSafeColumn r c a la ca xs b lb cb ys w h g hla hlb
      rw [if_neg (by simp [hv])] at this; exact this
    · have := imSafeColumn r c a la ca xs b lb cb ys w h g hla hlb
      rw [if_neg (by simp [hv])] at this; exact this
  | true =>
    refine ⟨(safeCol xs r.toNat c.toNat).1, (safeCol xs r.toNat c.toNat).2, true, fun a ca b cb w h g => ⟨?_, ?_⟩⟩
    · have := spSafeColumn r c a la ca xs b lb cb ys w h g hla hlb
      rw [if_pos hv] at this; exact this
    · have := imSafeColumn r c a la ca xs b lb cb ys w h g hla hlb
      rw [if_pos hv] at this; exact this
set_option maxHeartbeats 4000000 in
theorem fnExactSafeColumn (p00 : Int) (p01 : Int) (a00 : Option Addr) (l00 c00 : Nat) (x00 : List Int) (a01 : Option Addr) (l01 c01 : Nat) (x01 : List Int) (w : World) (hwp00 : (Lit.int .i64 p00).wf = true) (hwp01 : (Lit.int .i64 p01).wf = true) (hra00 : IsRow .i64 w a00 l00 c00 x00) (hra01 : IsRow .i64 w a01 l01 c01 x01) : Calls Try.prog 10 #[.agg #[.int .i64 p00, .int .i64 p01, .slice a00 l00 c00, .slice a01 l01 c01]] w (RetD true w) := by
  obtain ⟨hsa00, hva00, hma00⟩ := hra00
  have HSa00 := hid hsa00
  have HVa00 := hid hva00
  clear hsa00 hva00
  obtain ⟨hsa01, hva01, hma01⟩ := hra01
  have HSa01 := hid hsa01
  have HVa01 := hid hva01
  clear hsa01 hva01
  have HWp00 := hid hwp00
  clear hwp00
  have HWp01 := hid hwp01
  clear hwp01
  go_enter Try.func10, Try.ntmps10
  go_wp2_with fail
  refine (szGAny p00 p01 a00 l00 c00 a01 l01 c01 1048576 _ (Nat.le_refl _) hma00 hma01).mono ?_
  rintro e w1 ⟨r, rfl, b1, (⟨rfl, h1⟩ | ⟨rfl, h1⟩)⟩
  · have bw1 : Below w.heap.size w w1 := below_to (by repeat (first | exact Below.refl _ _ | with_reducible assumption | refine Below.alloc ?_ (by simp <;> omega) _)) b1
    go_wp2_with fail
    go_ret
    exact ⟨rfl, bw1⟩
  have bw1 : Below w.heap.size w w1 := below_to (by repeat (first | exact Below.refl _ _ | with_reducible assumption | refine Below.alloc ?_ (by simp <;> omega) _)) b1
  have bx0 : Box w1 (w.heap.size) [.int .i64 p00, .int .i64 p01, .slice a00 l00 c00, .slice a01 l01 c01] := (show Box _ (w.heap.size) _ from by simpa using Box.new w [.int .i64 p00, .int .i64 p01, .slice a00 l00 c00, .slice a01 l01 c01] 41).below b1
  have hla00 : l00 ≤ 1048576 := by omega
  have hla01 : l01 ≤ 1048576 := by omega
  obtain ⟨m1, hm1⟩ : ∃ m, 1048576 - (l00 + l01) = m := ⟨_, rfl⟩
  have hmm1 : m1 ≤ 1048576 := by omega
  rw [hm1]
  clear b1 h1 hm1
  obtain ⟨F0, F1, F2, hboth⟩ := bothSafeColumn p00 p01 HWp00.out HWp01.out l00 x00 hla00 HVa00.out l01 x01 hla01 HVa01.out
  have HBOTH := hid hboth
  clear hboth
  have hFF0 : (F0 != F0) = false := by simp
  have hFF1 : (F1 != F1) = false := by simp
  have hFF2 : (F2 != F2) = false := by simp
  have f0 := (bx0.2 0 _ rfl).1
  have f1 := (bx0.2 1 _ rfl).1
  have f2 := (bx0.2 2 _ rfl).1
  have f3 := (bx0.2 3 _ rfl).1
  go_upto_region 5 with (fail)
  go_cut [4, 5, 6] (fun sv4 sv5 sv6 wx => sv4 = .int .i64 F0 ∧ sv5 = .int .i64 F1 ∧ sv6 = .bool F2 ∧ Box wx (w.heap.size) [.int .i64 p00, .int .i64 p01, .slice a00 l00 c00, .slice a01 l01 c01] ∧ Below w.heap.size w wx)
  case first =>
    go_wp2_with fail
    refine (toG p00 p01 a00 l00 c00 x00 a01 l01 c01 x01 _ (HSa00.out.below bw1) (HSa01.out.below bw1) hla00 hla01).mono ?_
    rintro e wa ⟨Aa00, Aa01, rfl, sa00, sa01, ba⟩
    have bx0 := bx0.below ba
    have bwa : Below w.heap.size w wa := below_to bw1 ba
    clear f0 f1 f2 f3
    have f0 := (bx0.2 0 _ rfl).1
    have f1 := (bx0.2 1 _ rfl).1
    have f2 := (bx0.2 2 _ rfl).1
    have f3 := (bx0.2 3 _ rfl).1
    go_wp2_with fail
    refine (HBOTH.out _ _ _ _ _ sa00 sa01).1.mono ?_
    rintro e wb ⟨rfl, bb⟩
    have bx0 := bx0.below bb
    have bwb : Below w.heap.size w wb := below_to bwa bb
    go_wp2_with fail
    go_meet
    exact ⟨rfl, rfl, rfl, bx0, bwb⟩
  case rest =>
    obtain ⟨rfl, rfl, rfl, bx0, bc⟩ := hcut
    have f0 := (bx0.2 0 _ rfl).1
    have f1 := (bx0.2 1 _ rfl).1
    have f2 := (bx0.2 2 _ rfl).1
    have f3 := (bx0.2 3 _ rfl).1
    go_wp2_with fail
    refine (toG p00 p01 a00 l00 c00 x00 a01 l01 c01 x01 _ (HSa00.out.below bc) (HSa01.out.below bc) hla00 hla01).mono ?_
    rintro e wy0 ⟨Ba00, Ba01, rfl, ta00, ta01, b⟩
    clear f0 f1 f2 f3
    have bx0 := bx0.below b
    have by0 : Below w.heap.size w wy0 := below_to bc b
    clear b
    have hal : Below wy0.heap.size wy0 (wy0.alloc (.cells #[.int .i64 p00, .int .i64 p01, .slice Ba00 l00 l00, .slice Ba01 l01 l01] 44)) := Below.alloc (Below.refl _ _) (Nat.le_refl _) _
    have bx0 := bx0.below hal
    have ex0 : Box (wy0.alloc (.cells #[.int .i64 p00, .int .i64 p01, .slice Ba00 l00 l00, .slice Ba01 l01 l01] 44)) wy0.heap.size [.int .i64 p00, .int .i64 p01, .slice Ba00 l00 l00, .slice Ba01 l01 l01] := Box.new _ _ _
    have ta00 := ta00.below hal
    have ta01 := ta01.below hal
    have byl0 : Below w.heap.size w (wy0.alloc (.cells #[.int .i64 p00, .int .i64 p01, .slice Ba00 l00 l00, .slice Ba01 l01 l01] 44)) := below_to by0 hal
    clear hal
    go_wp2_with fail
    refine (HBOTH.out _ _ _ _ _ ta00 ta01).2.mono ?_
    rintro e wi ⟨rfl, b⟩
    have bx0 := bx0.below b
    have ex0 := ex0.below b
    have ta00 := ta00.below b
    have ta01 := ta01.below b
    have bi : Below w.heap.size w wi := below_to byl0 b
    clear b
    have f0 := (bx0.2 0 _ rfl).1
    have f1 := (bx0.2 1 _ rfl).1
    have f2 := (bx0.2 2 _ rfl).1
    have f3 := (bx0.2 3 _ rfl).1
    have g0 := (ex0.2 0 _ rfl).1
    have g1 := (ex0.2 1 _ rfl).1
    have g2 := (ex0.2 2 _ rfl).1
    have g3 := (ex0.2 3 _ rfl).1
    go_upto_region 10 with (fail)
    go_cut [48] (fun sv wx => sv = .bool false ∧ Box wx (w.heap.size) [.int .i64 p00, .int .i64 p01, .slice a00 l00 c00, .slice a01 l01 c01] ∧ Below w.heap.size w wx)
    case first =>
      go_region_with (first
        | (go_at_call 35
           refine (toG p00 p01 a00 l00 c00 x00 a01 l01 c01 x01 _ (HSa00.out.below bi.drew) (HSa01.out.below bi.drew) hla00 hla01).mono ?_
           rintro e we ⟨Ea00, Ea01, rfl, ua00, ua01, b⟩
           have bx0 := (Box.d1 bx0).below b
           have ex0 := (Box.d1 ex0).below b
           have ta00 := (ta00.below (Below.refl _ _).drew).below b
           have ta01 := (ta01.below (Below.refl _ _).drew).below b
           have be : Below w.heap.size w we := below_to bi.drew b
           have f0 := (bx0.2 0 _ rfl).1
           have f1 := (bx0.2 1 _ rfl).1
           have f2 := (bx0.2 2 _ rfl).1
           have f3 := (bx0.2 3 _ rfl).1
           have g0 := (ex0.2 0 _ rfl).1
           have g1 := (ex0.2 1 _ rfl).1
           have g2 := (ex0.2 2 _ rfl).1
           have g3 := (ex0.2 3 _ rfl).1)
        | (go_at_call 37
           refine (eqGSelf p00 p01 _ _ l00 _ _ x00 _ _ l01 _ _ x01 _ ta00 ua00 hla00 ta01 ua01 hla01).mono ?_
           rintro e wf ⟨rfl, b⟩
           have bx0 := bx0.below b
           have bf : Below w.heap.size w wf := below_to be b))
      all_goals (go_wp2_with fail; go_meet; exact ⟨rfl, bx0, bf⟩)
    case rest =>
    clear f0 f1 f2 f3
    clear g0 g1 g2 g3
    clear bx0 ex0 ta00 ta01
    obtain ⟨rfl, bx0, bk0⟩ := hcut
    go_wp2_with fail
    go_ret
    exact ⟨rfl, bk0⟩
end TryWalk
end Go.Proofs.Ytlbmmecjiopbbaa
