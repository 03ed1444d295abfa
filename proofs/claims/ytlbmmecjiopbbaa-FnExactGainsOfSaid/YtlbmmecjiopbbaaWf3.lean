/- Games: what both gain by chances: the program's side. No condition. -/
import Derived.Test.YtlbmmecjiopbbaaWf2
namespace Go.Proofs.Ytlbmmecjiopbbaa
open Go.RowKit Flo Sl Pg
set_option linter.unusedVariables false
set_option linter.unusedSimpArgs false
namespace TryWalk
set_option maxRecDepth 100000 in
set_option maxHeartbeats 8000000 in
theorem chancesFor (r c : Int) (a : Option Addr) (la ca : Nat) (xs : List Int) (b : Option Addr) (lb cb : Nat) (ys : List Int) (m1 : Option Addr) (l1 k1 : Nat) (rs : List Nat) (m2 : Option Addr) (l2 k2 : Nat) (cs : List Nat) (w : World)
    (h : SlV (Value.int .i64) w a la xs) (g : SlV (Value.int .i64) w b lb ys) (h1 : SlV (Value.float .f32) w m1 l1 rs) (h2 : SlV (Value.float .f32) w m2 l2 cs) (hla : la ≤ 1048576) (hlb : lb ≤ 1048576) (hl1 : l1 ≤ 1048576) (hl2 : l2 ≤ 1048576) : Calls Try.prog 107 #[.agg #[.int .i64 r, .int .i64 c, .slice a la ca, .slice b lb cb], .slice m1 l1 k1, .slice m2 l2 k2] w (RetD (chB r c xs ys rs cs) w) := by
  have bw : Below w.heap.size w (w.alloc (.cells #[.int .i64 r, .int .i64 c, .slice a la ca, .slice b lb cb] 44)) := Below.alloc (Below.refl _ _) (Nat.le_refl _) _
  have hbox : Box (w.alloc (.cells #[.int .i64 r, .int .i64 c, .slice a la ca, .slice b lb cb] 44)) w.heap.size [.int .i64 r, .int .i64 c, .slice a la ca, .slice b lb cb] := Box.new _ _ _
  have HV := hid (imValidG r c a la ca xs b lb cb ys (w.alloc (.cells #[.int .i64 r, .int .i64 c, .slice a la ca, .slice b lb cb] 44)) (h.below bw) (g.below bw) hla hlb)
  have HN1 := hid (fun (w' : World) (hb : Below w.heap.size w w') => notLess m1 l1 k1 rs w' (h1.below hb) hl1)
  have HN2 := hid (fun (w' : World) (hb : Below w.heap.size w w') => notLess m2 l2 k2 cs w' (h2.below hb) hl2)
  have HX := hid hbox
  have HB := hid bw
  have he : chB r c xs ys rs cs = (validG r c xs ys && (decide ((l1 : Int) = r) && rs.all okC) && (decide ((l2 : Int) = c) && cs.all okC)) := by unfold chB; rw [h1.1, h2.1]
  rw [he]
  obtain ⟨d0, hd0⟩ : ∃ d, validG r c xs ys = d := ⟨_, rfl⟩
  obtain ⟨n1, hn1⟩ : ∃ d, rs.all okC = d := ⟨_, rfl⟩
  obtain ⟨n2, hn2⟩ : ∃ d, cs.all okC = d := ⟨_, rfl⟩
  simp only [← okC_all] at HN1 HN2
  rw [hd0] at HV
  rw [hn1] at HN1
  rw [hn2] at HN2
  rw [hd0, hn1, hn2]
  clear hd0 hn1 hn2 bw hbox h g h1 h2 hla hlb hl1 hl2 he
  cases d0 with
  | false =>
    go_enter Try.func107, Try.ntmps107
    go_wp2_with fail
    refine HV.out.mono ?_
    rintro e w' ⟨rfl, b1⟩
    have HB1 := hid (below_to HB.out b1)
    clear b1
    go_wp2_with fail
    go_ret
    exact ⟨rfl, HB1.out⟩
  | true =>
    by_cases h1 : (l1 : Int) = r
    · have q1 : ((l1 : Int) == r) = true := by simpa using h1
      have e1 : decide ((l1 : Int) = r) = true := by simpa using h1
      have HE1 := hid e1
      clear e1 h1
      by_cases h2 : (l2 : Int) = c
      · have q2 : ((l2 : Int) == c) = true := by simpa using h2
        have e2 : decide ((l2 : Int) = c) = true := by simpa using h2
        have HE2 := hid e2
        clear e2 h2
        cases n1 with
        | false =>
          go_enter Try.func107, Try.ntmps107
          go_wp2_with fail
          refine HV.out.mono ?_
          rintro e w1 ⟨rfl, b1⟩
          have hbx := HX.out.below b1
          have f0 := (hbx.2 0 _ rfl).1
          have f1 := (hbx.2 1 _ rfl).1
          have HB1 := hid (below_to HB.out b1)
          clear b1 hbx
          go_wp2_with fail
          refine (HN1.out _ HB1.out).mono ?_
          rintro e w' ⟨rfl, n, rfl⟩
          go_wp2_with fail
          go_ret
          exact ⟨by rw [HE1.out]; rfl, below_drewN HB1.out n⟩
        | true =>
          go_enter Try.func107, Try.ntmps107
          go_wp2_with fail
          refine HV.out.mono ?_
          rintro e w1 ⟨rfl, b1⟩
          have hbx := HX.out.below b1
          have f0 := (hbx.2 0 _ rfl).1
          have f1 := (hbx.2 1 _ rfl).1
          have HB1 := hid (below_to HB.out b1)
          clear b1 hbx
          go_wp2_with fail
          refine (HN1.out _ HB1.out).mono ?_
          rintro e w' ⟨rfl, n, rfl⟩
          go_wp2_with fail
          refine (HN2.out _ (below_drewN HB1.out n)).mono ?_
          rintro e w' ⟨rfl, n3, rfl⟩
          go_wp2_with fail
          go_ret
          exact ⟨by rw [HE1.out, HE2.out]; simp, below_drewN HB1.out _⟩
      · have q2 : ((l2 : Int) == c) = false := by simpa using h2
        have e2 : decide ((l2 : Int) = c) = false := by simpa using h2
        have HE2 := hid e2
        clear e2 h2
        go_enter Try.func107, Try.ntmps107
        go_wp2_with fail
        refine HV.out.mono ?_
        rintro e w1 ⟨rfl, b1⟩
        have hbx := HX.out.below b1
        have f0 := (hbx.2 0 _ rfl).1
        have f1 := (hbx.2 1 _ rfl).1
        have HB1 := hid (below_to HB.out b1)
        clear b1 hbx
        go_wp2_with fail
        go_ret
        exact ⟨by rw [HE2.out]; simp, HB1.out⟩
    · have q1 : ((l1 : Int) == r) = false := by simpa using h1
      have e1 : decide ((l1 : Int) = r) = false := by simpa using h1
      have HE1 := hid e1
      clear e1 h1
      go_enter Try.func107, Try.ntmps107
      go_wp2_with fail
      refine HV.out.mono ?_
      rintro e w1 ⟨rfl, b1⟩
      have hbx := HX.out.below b1
      have f0 := (hbx.2 0 _ rfl).1
      have f1 := (hbx.2 1 _ rfl).1
      have HB1 := hid (below_to HB.out b1)
      clear b1 hbx
      go_wp2_with fail
      go_ret
      exact ⟨by rw [HE1.out]; simp, HB1.out⟩
set_option maxRecDepth 100000 in
set_option maxHeartbeats 8000000 in
theorem imGainsNo (r c : Int) (a : Option Addr) (la ca : Nat) (xs : List Int) (b : Option Addr) (lb cb : Nat) (ys : List Int) (m1 : Option Addr) (l1 k1 : Nat) (rs : List Nat) (m2 : Option Addr) (l2 k2 : Nat) (cs : List Nat) (w : World)
    (h : SlV (Value.int .i64) w a la xs) (g : SlV (Value.int .i64) w b lb ys) (h1 : SlV (Value.float .f32) w m1 l1 rs) (h2 : SlV (Value.float .f32) w m2 l2 cs) (hla : la ≤ 1048576) (hlb : lb ≤ 1048576) (hl1 : l1 ≤ 1048576) (hl2 : l2 ≤ 1048576) (hv : chB r c xs ys rs cs = false) : Calls Try.prog 64 #[.agg #[.int .i64 r, .int .i64 c, .slice a la ca, .slice b lb cb], .slice m1 l1 k1, .slice m2 l2 k2] w (RetGF 0 0 false w) := by
  have bw : Below w.heap.size w (w.alloc (.cells #[.int .i64 r, .int .i64 c, .slice a la ca, .slice b lb cb] 44)) := Below.alloc (Below.refl _ _) (Nat.le_refl _) _
  have HC := hid (chancesFor r c a la ca xs b lb cb ys m1 l1 k1 rs m2 l2 k2 cs (w.alloc (.cells #[.int .i64 r, .int .i64 c, .slice a la ca, .slice b lb cb] 44)) (h.below bw) (g.below bw) (h1.below bw) (h2.below bw) hla hlb hl1 hl2)
  rw [hv] at HC
  have HB := hid bw
  clear bw h g h1 h2 hla hlb hl1 hl2 hv
  go_enter Try.func64, Try.ntmps64
  go_wp2_with fail
  refine HC.out.mono ?_
  rintro e w' ⟨rfl, b1⟩
  have HB1 := hid (below_to HB.out b1)
  clear b1
  go_wp2_with fail
  go_ret3
  exact retGF_no HB1.out
theorem two_slv (w : World) (x y : Nat) : SlV (Value.float .f32) (w.alloc (.cells #[.float .f32 x, .float .f32 y] 65)) (some ⟨w.heap.size, 0, none⟩) 2 [x, y] := by
  refine ⟨rfl, fun _ => ⟨w.heap.size, 0, rfl, by simp, fun i hi => ?_⟩⟩
  rw [World.cell?_alloc_at _ _ _ _ rfl]
  match i, hi with
  | 0, _ => rfl
  | 1, _ => rfl
set_option maxRecDepth 100000 in
set_option maxHeartbeats 16000000 in
theorem imGainsYes (r c : Int) (a : Option Addr) (la ca : Nat) (xs : List Int) (b : Option Addr) (lb cb : Nat) (ys : List Int) (m1 : Option Addr) (l1 k1 : Nat) (rs : List Nat) (m2 : Option Addr) (l2 k2 : Nat) (cs : List Nat) (w : World)
    (h : SlV (Value.int .i64) w a la xs) (g : SlV (Value.int .i64) w b lb ys) (h1 : SlV (Value.float .f32) w m1 l1 rs) (h2 : SlV (Value.float .f32) w m2 l2 cs) (hla : la ≤ 1048576) (hlb : lb ≤ 1048576) (hl1 : l1 ≤ 1048576) (hl2 : l2 ≤ 1048576) (hv : chB r c xs ys rs cs = true) : Calls Try.prog 64 #[.agg #[.int .i64 r, .int .i64 c, .slice a la ca, .slice b lb cb], .slice m1 l1 k1, .slice m2 l2 k2] w (GainR (allS xs c.toNat rs cs r.toNat) (allS ys c.toNat rs cs r.toNat) w) := by
  have bw : Below w.heap.size w (w.alloc (.cells #[.int .i64 r, .int .i64 c, .slice a la ca, .slice b lb cb] 44)) := Below.alloc (Below.refl _ _) (Nat.le_refl _) _
  have hbox : Box (w.alloc (.cells #[.int .i64 r, .int .i64 c, .slice a la ca, .slice b lb cb] 44)) w.heap.size [.int .i64 r, .int .i64 c, .slice a la ca, .slice b lb cb] := Box.new _ _ _
  have HC := hid (chancesFor r c a la ca xs b lb cb ys m1 l1 k1 rs m2 l2 k2 cs (w.alloc (.cells #[.int .i64 r, .int .i64 c, .slice a la ca, .slice b lb cb] 44)) (h.below bw) (g.below bw) (h1.below bw) (h2.below bw) hla hlb hl1 hl2)
  rw [hv] at HC
  have HX := hid hbox
  have HB := hid bw
  unfold chB at hv
  simp only [Bool.and_eq_true] at hv
  obtain ⟨⟨v0, v1⟩, v2⟩ := hv
  obtain ⟨rn, cn, rfl, rfl, hr1, hr2, hc1, hc2, h5, h7, h6, h8⟩ := validG_parts v0
  have e1 : l1 = rn := by rw [← h1.1]; have := v1.1; simp only [decide_eq_true_eq] at this; exact_mod_cast this
  have e2 : l2 = cn := by rw [← h2.1]; have := v2.1; simp only [decide_eq_true_eq] at this; exact_mod_cast this
  subst e1
  subst e2
  simp only [Int.toNat_natCast]
  obtain ⟨p1, o1, rfl, -, -⟩ := h1.2 (by omega)
  obtain ⟨p2, o2, rfl, -, -⟩ := h2.2 (by omega)
  have hLA : la = l1 * l2 := by rw [← h.1]; exact h5
  have hLB : lb = l1 * l2 := by rw [← g.1]; exact h7
  have HCL : Hid (∀ w', Below w.heap.size w w' → (∀ j, j < l1 → w'.cell? ⟨p1, o1 + j, none⟩ = some (.float .f32 (rs.getD j 0))) ∧ (∀ j, j < l2 → w'.cell? ⟨p2, o2 + j, none⟩ = some (.float .f32 (cs.getD j 0)))) := hid (fun w' b => ⟨slv_at (h1.below b), slv_at (h2.below b)⟩)
  have HGA : Hid (∀ j k w', j < l1 → k < l2 → Below w.heap.size w w' → Calls Try.prog 92 #[.agg #[.int .i64 (l1 : Int), .int .i64 (l2 : Int), .slice a la ca, .slice b lb cb], .int .i64 (j : Int), .int .i64 (k : Int)] w' (RetV (.int .i64 (at2 xs l2 j k)) w')) := hid (fun j k w' hj hk hb => gA l1 l2 a la ca xs b lb cb j k w' hr2 hc2 hLA (h.below hb) hj hk)
  have HGB : Hid (∀ j k w', j < l1 → k < l2 → Below w.heap.size w w' → Calls Try.prog 99 #[.agg #[.int .i64 (l1 : Int), .int .i64 (l2 : Int), .slice a la ca, .slice b lb cb], .int .i64 (j : Int), .int .i64 (k : Int)] w' (RetV (.int .i64 (at2 ys l2 j k)) w')) := hid (fun j k w' hj hk hb => gB l1 l2 a la ca b lb cb ys j k w' hr2 hc2 hLB (g.below hb) hj hk)
  clear v0 v1 v2 bw hbox h g h1 h2 h5 h7 h6 h8 hLA hLB
  go_enter Try.func64, Try.ntmps64
  go_wp2_with fail
  refine HC.out.mono ?_
  rintro e w3 ⟨rfl, b1⟩
  have HX3 := hid (HX.out.below b1)
  have HB3 := hid (below_to HB.out b1)
  clear b1
  go_wp2_with fail
  go_loopw [9, 10, 23] (fun x y i wr => ∃ (j r0 r1 : Nat), j ≤ l1 ∧ i = .int .i64 (j : Int) ∧ x = .float .f32 r0 ∧ y = .float .f32 r1 ∧ Sim .f32 r0 (allS xs l2 rs cs j) ∧ Sim .f32 r1 (allS ys l2 rs cs j) ∧ Fits .f32 r0 ∧ Fits .f32 r1 ∧ Below w3.heap.size w3 wr) (fun _ _ i _ => l1 - (intOf i).toNat)
  case atStart => exact ⟨0, 0, 0, Nat.zero_le _, rfl, rfl, rfl, Sim.refl _ _, Sim.refl _ _, zero32, zero32, Below.refl _ _⟩
  case round =>
    obtain ⟨j, r0, r1, hj, rfl, rfl, rfl, hs0, hs1, hf0, hf1, hbel⟩ := hrel
    have HS0 := hid hs0
    have HS1 := hid hs1
    have HF0 := hid hf0
    have HF1 := hid hf1
    have HBEL := hid hbel
    clear hs0 hs1 hf0 hf1 hbel
    by_cases hlt : j < l1
    · have HNXA : Hid (allS xs l2 rs cs (j + 1) = rowS xs l2 rs cs j (allS xs l2 rs cs j) l2) := hid rfl
      have HNXB : Hid (allS ys l2 rs cs (j + 1) = rowS ys l2 rs cs j (allS ys l2 rs cs j) l2) := hid rfl
      obtain ⟨A0, hA0⟩ : ∃ A, allS xs l2 rs cs j = A := ⟨_, rfl⟩
      obtain ⟨B0, hB0⟩ : ∃ A, allS ys l2 rs cs j = A := ⟨_, rfl⟩
      rw [hA0] at HS0 HNXA
      rw [hB0] at HS1 HNXB
      clear hA0 hB0
      have d1 := (HCL.out wr (below_to HB3.out HBEL.out)).1 j hlt
      obtain ⟨x, hx⟩ : ∃ x, rs.getD j 0 = x := ⟨_, rfl⟩
      rw [hx] at d1
      have HXX := hid hx
      clear hx
      go_wp2_with fail
      go_loopw [9, 10, 30] (fun x y i wq => ∃ (k s0 s1 : Nat), k ≤ l2 ∧ i = .int .i64 (k : Int) ∧ x = .float .f32 s0 ∧ y = .float .f32 s1 ∧ Sim .f32 s0 (rowS xs l2 rs cs j A0 k) ∧ Sim .f32 s1 (rowS ys l2 rs cs j B0 k) ∧ Fits .f32 s0 ∧ Fits .f32 s1 ∧ Below w3.heap.size w3 wq) (fun _ _ i _ => l2 - (intOf i).toNat)
      case atStart => exact ⟨0, r0, r1, Nat.zero_le _, rfl, rfl, rfl, HS0.out, HS1.out, HF0.out, HF1.out, HBEL.out⟩
      case round =>
        obtain ⟨k, s0, s1, hk, rfl, rfl, rfl, hs0, hs1, hf0, hf1, hbel⟩ := hrel
        rename World => wq
        clear d1
        have HS0 := hid hs0
        have HS1 := hid hs1
        have HF0 := hid hf0
        have HF1 := hid hf1
        have HBEL := hid hbel
        clear hs0 hs1 hf0 hf1 hbel
        by_cases hlt2 : k < l2
        · have HNA : Hid (rowS xs l2 rs cs j A0 (k + 1) = fop .add .f32 (rowS xs l2 rs cs j A0 k) (fop .mul .f32 (fop .mul .f32 x (cs.getD k 0)) (floatOfInt .f32 (at2 xs l2 j k)))) := hid (by rw [← HXX.out]; rfl)
          have HNB : Hid (rowS ys l2 rs cs j B0 (k + 1) = fop .add .f32 (rowS ys l2 rs cs j B0 k) (fop .mul .f32 (fop .mul .f32 x (cs.getD k 0)) (floatOfInt .f32 (at2 ys l2 j k)))) := hid (by rw [← HXX.out]; rfl)
          have d2 := (HCL.out wq (below_to HB3.out HBEL.out)).2 k hlt2
          have HKA := hid (fun w' hb => HGA.out j k w' hlt hlt2 hb)
          have HKB := hid (fun w' hb => HGB.out j k w' hlt hlt2 hb)
          obtain ⟨y, hy⟩ : ∃ x, cs.getD k 0 = x := ⟨_, rfl⟩
          obtain ⟨u1, hu1⟩ : ∃ u, at2 xs l2 j k = u := ⟨_, rfl⟩
          obtain ⟨u2, hu2⟩ : ∃ u, at2 ys l2 j k = u := ⟨_, rfl⟩
          rw [hy] at d2 HNA HNB
          rw [hu1] at HNA HKA
          rw [hu2] at HNB HKB
          clear hy hu1 hu2
          obtain ⟨S0, hS0⟩ : ∃ A, rowS xs l2 rs cs j A0 k = A := ⟨_, rfl⟩
          obtain ⟨S1, hS1⟩ : ∃ A, rowS ys l2 rs cs j B0 k = A := ⟨_, rfl⟩
          rw [hS0] at HS0 HNA
          rw [hS1] at HS1 HNB
          clear hS0 hS1
          obtain ⟨bx0, hbx0⟩ : ∃ b, b = HX3.out.below HBEL.out := ⟨_, rfl⟩
          clear hbx0
          go_wp2_with (refine wpList_fsim rfl .mul _ _ _ _ rfl rfl .f32 _ _ rfl rfl (Sim.refl _ _) (Sim.refl _ _) ?_; intro c0 nc hc0 hfc; have f0 := ((bx0.dr nc).2 0 _ rfl).1; have f1 := ((bx0.dr nc).2 1 _ rfl).1; have f2 := ((bx0.dr nc).2 2 _ rfl).1; have f3 := ((bx0.dr nc).2 3 _ rfl).1)
          refine (HKA.out _ (below_drewN (below_to HB3.out HBEL.out) nc)).mono ?_
          rintro e w5 ⟨rfl, b5⟩
          clear f0 f1 f2 f3
          have bx5 := (bx0.dr nc).below b5
          have HB5 := hid (below_to (below_drewN HBEL.out nc) b5)
          clear b5 bx0
          go_wp2_with (first
            | (refine wpList_fsim rfl .mul _ _ _ _ rfl rfl .f32 _ _ rfl rfl (by with_reducible assumption) (Sim.refl _ _) ?_; intro r n hr hb)
            | (refine wpList_fsim rfl .add _ _ _ _ rfl rfl .f32 _ _ rfl rfl (by first | with_reducible assumption | exact HS0.out) (by with_reducible assumption) ?_; intro t1 nt ht1 hft1; have f0 := ((bx5.dr (n + nt)).2 0 _ rfl).1; have f1 := ((bx5.dr (n + nt)).2 1 _ rfl).1; have f2 := ((bx5.dr (n + nt)).2 2 _ rfl).1; have f3 := ((bx5.dr (n + nt)).2 3 _ rfl).1))
          refine (HKB.out _ (below_drewN (below_to HB3.out HB5.out) _)).mono ?_
          rintro e w6 ⟨rfl, b6⟩
          clear f0 f1 f2 f3
          have HB6 := hid (below_to (below_drewN HB5.out _) b6)
          clear b6 bx5
          go_wp2_with (first
            | (refine wpList_fsim rfl .mul _ _ _ _ rfl rfl .f32 _ _ rfl rfl (by with_reducible assumption) (Sim.refl _ _) ?_; intro r n hr hb)
            | (refine wpList_fsim rfl .add _ _ _ _ rfl rfl .f32 _ _ rfl rfl (by first | with_reducible assumption | exact HS1.out) (by with_reducible assumption) ?_; intro t2 nt2 ht2 hft2))
          go_roundw
          case rel => exact ⟨k + 1, _, _, by omega, by go_num, rfl, rfl, by rw [HNA.out]; with_reducible assumption, by rw [HNB.out]; with_reducible assumption, by with_reducible assumption, by with_reducible assumption, below_drewN HB6.out _⟩
          case measure => simp [intOf]; omega
        · obtain rfl : k = l2 := by omega
          go_wp2_with fail
          go_roundw
          case rel => exact ⟨j + 1, s0, s1, by omega, by go_num, rfl, rfl, by rw [HNXA.out]; exact HS0.out, by rw [HNXB.out]; exact HS1.out, HF0.out, HF1.out, HBEL.out⟩
          case measure => simp [intOf]; omega
    · obtain rfl : j = l1 := by omega
      obtain ⟨A0, hA0⟩ : ∃ A, allS xs l2 rs cs j = A := ⟨_, rfl⟩
      obtain ⟨B0, hB0⟩ : ∃ A, allS ys l2 rs cs j = A := ⟨_, rfl⟩
      rw [hA0] at HS0
      rw [hB0] at HS1
      have HA0 := hid hA0
      have HB0 := hid hB0
      clear hA0 hB0
      have HBZ := hid (below_to HB3.out HBEL.out)
      have hfin := areFin (some ⟨wr.heap.size, 0, none⟩) 2 2 [r0, r1] _ (two_slv wr r0 r1) (by decide)
      have hany : (!([r0, r1] : List Nat).any pFin) = (isFin .f32 A0 && isFin .f32 B0) := by
        simp only [List.any_cons, List.any_nil, Bool.or_false, pFin, isFin_congr HS0.out, isFin_congr HS1.out]
        cases isFin .f32 A0 <;> cases isFin .f32 B0 <;> rfl
      rw [hany] at hfin
      obtain ⟨d, hd⟩ : ∃ d, (isFin .f32 A0 && isFin .f32 B0) = d := ⟨_, rfl⟩
      rw [hd] at hfin
      have HD := hid hd
      have HFIN := hid hfin
      clear hfin hany hd
      cases d with
      | false =>
        go_wp2_with (go_at_call 108; refine HFIN.out.mono ?_; rintro e w9 ⟨rfl, n9, rfl⟩)
        go_ret3
        rw [GainR, HA0.out, HB0.out, HD.out]
        exact retGF_no (below_drewN (HBZ.out.alloc HBZ.out.size _) _)
      | true =>
        go_wp2_with (go_at_call 108; refine HFIN.out.mono ?_; rintro e w9 ⟨rfl, n9, rfl⟩)
        go_ret3
        rw [GainR, HA0.out, HB0.out, HD.out]
        exact ⟨r0, r1, rfl, HS0.out, HS1.out, HF0.out, HF1.out, below_drewN (HBZ.out.alloc HBZ.out.size _) _⟩
theorem bothGains (r c : Int) (la : Nat) (xs : List Int) (hla : la ≤ 1048576) (lb : Nat) (ys : List Int) (hlb : lb ≤ 1048576) (l1 : Nat) (rs : List Nat) (hl1 : l1 ≤ 1048576) (l2 : Nat) (cs : List Nat) (hl2 : l2 ≤ 1048576) :
    ∃ (F0 F1 : Nat) (D : Bool), ∀ a ca b cb m1 k1 m2 k2 w, SlV (Value.int .i64) w a la xs → SlV (Value.int .i64) w b lb ys → SlV (Value.float .f32) w m1 l1 rs → SlV (Value.float .f32) w m2 l2 cs →
      Calls Try.prog 62 #[.agg #[.int .i64 r, .int .i64 c, .slice a la ca, .slice b lb cb], .slice m1 l1 k1, .slice m2 l2 k2] w (RetGF F0 F1 D w) ∧ Calls Try.prog 64 #[.agg #[.int .i64 r, .int .i64 c, .slice a la ca, .slice b lb cb], .slice m1 l1 k1, .slice m2 l2 k2] w (RetGF F0 F1 D w) := by
  cases hv : chB r c xs ys rs cs with
  | false => exact ⟨0, 0, false, fun a ca b cb m1 k1 m2 k2 w h g h1 h2 => ⟨spGainsNo r c a la ca xs b lb cb ys m1 l1 k1 rs m2 l2 k2 cs w h g h1 h2 hla hlb hl1 hl2 hv, imGainsNo r c a la ca xs b lb cb ys m1 l1 k1 rs m2 l2 k2 cs w h g h1 h2 hla hlb hl1 hl2 hv⟩⟩
  | true =>
    cases hf : (isFin .f32 (allS xs c.toNat rs cs r.toNat) && isFin .f32 (allS ys c.toNat rs cs r.toNat)) with
    | false =>
      refine ⟨0, 0, false, fun a ca b cb m1 k1 m2 k2 w h g h1 h2 => ⟨?_, ?_⟩⟩
      · refine (spGainsYes r c a la ca xs b lb cb ys m1 l1 k1 rs m2 l2 k2 cs w h g h1 h2 hla hlb hl1 hl2 hv).mono fun e w' hh => ?_
        rw [GainR, hf] at hh; exact hh
      · refine (imGainsYes r c a la ca xs b lb cb ys m1 l1 k1 rs m2 l2 k2 cs w h g h1 h2 hla hlb hl1 hl2 hv).mono fun e w' hh => ?_
        rw [GainR, hf] at hh; exact hh
    | true =>
      refine ⟨allS xs c.toNat rs cs r.toNat, allS ys c.toNat rs cs r.toNat, true, fun a ca b cb m1 k1 m2 k2 w h g h1 h2 => ⟨?_, ?_⟩⟩
      · refine (spGainsYes r c a la ca xs b lb cb ys m1 l1 k1 rs m2 l2 k2 cs w h g h1 h2 hla hlb hl1 hl2 hv).mono fun e w' hh => ?_
        rw [GainR, hf] at hh; exact hh
      · refine (imGainsYes r c a la ca xs b lb cb ys m1 l1 k1 rs m2 l2 k2 cs w h g h1 h2 hla hlb hl1 hl2 hv).mono fun e w' hh => ?_
        rw [GainR, hf] at hh; exact hh
end TryWalk
end Go.Proofs.Ytlbmmecjiopbbaa
