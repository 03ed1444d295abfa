/- Games: what both gain by chances: the reference's side. No condition. -/
import Derived.Test.YtlbmmecjiopbbaaWf1
import Derived.Test.YtlbmmecjiopbbaaWi9
namespace Go.Proofs.Ytlbmmecjiopbbaa
open Go.RowKit Flo Sl Pg
set_option linter.unusedVariables false
set_option linter.unusedSimpArgs false
namespace TryWalk
/-- The sum over k columns of row i, begun with acc. -/
def rowS (xs : List Int) (cn : Nat) (rs cs : List Nat) (i acc : Nat) : Nat → Nat
  | 0 => acc
  | k + 1 => fop .add .f32 (rowS xs cn rs cs i acc k) (fop .mul .f32 (fop .mul .f32 (rs.getD i 0) (cs.getD k 0)) (floatOfInt .f32 (at2 xs cn i k)))
def allS (xs : List Int) (cn : Nat) (rs cs : List Nat) : Nat → Nat
  | 0 => 0
  | i + 1 => rowS xs cn rs cs i (allS xs cn rs cs i) cn
def RetGF (F0 F1 : Nat) (d : Bool) (w : World) (e : Ending) (w' : World) : Prop := ∃ r0 r1, e = .returned (.tuple #[.float .f32 r0, .float .f32 r1, .bool d]) ∧ Sim .f32 r0 F0 ∧ Sim .f32 r1 F1 ∧ Fits .f32 r0 ∧ Fits .f32 r1 ∧ Below w.heap.size w w'
theorem zero32 : Fits .f32 0 := fits_of_wf (by decide)
/-- It returns both sums, if they are finite. -/
def GainR (A B : Nat) (w : World) (e : Ending) (w' : World) : Prop := if isFin .f32 A && isFin .f32 B then RetGF A B true w e w' else RetGF 0 0 false w e w'
theorem slv_at {α : Type} [Inhabited α] {f : α → Value} {w : World} {p o len : Nat} {xs : List α} (h : SlV f w (some ⟨p, o, none⟩) len xs) : ∀ j, j < len → w.cell? ⟨p, o + j, none⟩ = some (f (xs.getD j default)) := by
  intro j hj
  obtain ⟨b', o', he, -, hc⟩ := h.2 (by omega)
  obtain ⟨rfl, rfl⟩ : p = b' ∧ o = o' := by injection he with he; injection he with h1 h2 h3; exact ⟨h1, h2⟩
  exact hc j hj
theorem retGF_no {w w' : World} (b : Below w.heap.size w w') : RetGF 0 0 false w (.returned (.tuple #[.float .f32 0, .float .f32 0, .bool false])) w' := ⟨0, 0, rfl, Sim.refl _ _, Sim.refl _ _, zero32, zero32, b⟩
def chB (r c : Int) (xs ys : List Int) (rs cs : List Nat) : Bool := validG r c xs ys && (decide ((rs.length : Int) = r) && rs.all okC) && (decide ((cs.length : Int) = c) && cs.all okC)
set_option maxRecDepth 100000 in
set_option maxHeartbeats 8000000 in
theorem spGainsNo (r c : Int) (a : Option Addr) (la ca : Nat) (xs : List Int) (b : Option Addr) (lb cb : Nat) (ys : List Int) (m1 : Option Addr) (l1 k1 : Nat) (rs : List Nat) (m2 : Option Addr) (l2 k2 : Nat) (cs : List Nat) (w : World)
    (h : SlV (Value.int .i64) w a la xs) (g : SlV (Value.int .i64) w b lb ys) (h1 : SlV (Value.float .f32) w m1 l1 rs) (h2 : SlV (Value.float .f32) w m2 l2 cs) (hla : la ≤ 1048576) (hlb : lb ≤ 1048576) (hl1 : l1 ≤ 1048576) (hl2 : l2 ≤ 1048576) (hv : chB r c xs ys rs cs = false) :
    Calls Try.prog 62 #[.agg #[.int .i64 r, .int .i64 c, .slice a la ca, .slice b lb cb], .slice m1 l1 k1, .slice m2 l2 k2] w (RetGF 0 0 false w) := by
  have bw : Below w.heap.size w (w.alloc (.cells #[.int .i64 r, .int .i64 c, .slice a la ca, .slice b lb cb] 44)) := Below.alloc (Below.refl _ _) (Nat.le_refl _) _
  have hbox : Box (w.alloc (.cells #[.int .i64 r, .int .i64 c, .slice a la ca, .slice b lb cb] 44)) w.heap.size [.int .i64 r, .int .i64 c, .slice a la ca, .slice b lb cb] := Box.new _ _ _
  have HIS := hid (l02Is r c a la ca xs b lb cb ys _ _ hbox (h.below bw) (g.below bw) hla hlb)
  have HC1 := hid (fun (w' : World) (hb : Below (w.alloc (.cells #[.int .i64 r, .int .i64 c, .slice a la ca, .slice b lb cb] 44)).heap.size (w.alloc (.cells #[.int .i64 r, .int .i64 c, .slice a la ca, .slice b lb cb] 44)) w') => chances m1 l1 k1 rs r w' ((h1.below bw).below hb) hl1)
  have HC2 := hid (fun (w' : World) (hb : Below (w.alloc (.cells #[.int .i64 r, .int .i64 c, .slice a la ca, .slice b lb cb] 44)).heap.size (w.alloc (.cells #[.int .i64 r, .int .i64 c, .slice a la ca, .slice b lb cb] 44)) w') => chances m2 l2 k2 cs c w' ((h2.below bw).below hb) hl2)
  have HX := hid hbox
  have HB := hid bw
  unfold chB at hv
  rw [h1.1, h2.1] at hv
  obtain ⟨d0, hd0⟩ : ∃ d, validG r c xs ys = d := ⟨_, rfl⟩
  obtain ⟨d1, hd1⟩ : ∃ d, (decide ((l1 : Int) = r) && rs.all okC) = d := ⟨_, rfl⟩
  obtain ⟨d2, hd2⟩ : ∃ d, (decide ((l2 : Int) = c) && cs.all okC) = d := ⟨_, rfl⟩
  rw [hd0, hd1, hd2] at hv
  rw [hd0] at HIS
  rw [hd1] at HC1
  rw [hd2] at HC2
  clear hd0 hd1 hd2 bw hbox h g h1 h2 hla hlb hl1 hl2
  cases d0 with
  | false =>
    clear hv
    go_enter Try.func62, Try.ntmps62
    go_wp2_with fail
    refine HIS.out.mono ?_
    rintro e w' ⟨rfl, n, rfl⟩
    go_wp2_with fail
    go_ret3
    exact retGF_no (below_drewN HB.out n)
  | true =>
    cases d1 with
    | false =>
      clear hv
      go_enter Try.func62, Try.ntmps62
      go_wp2_with fail
      refine HIS.out.mono ?_
      rintro e w' ⟨rfl, n, rfl⟩
      have f0 := ((HX.out.dr n).2 0 _ rfl).1
      go_wp2_with fail
      refine (HC1.out _ (below_drewN (Below.refl _ _) n)).mono ?_
      rintro e w' ⟨rfl, n2, rfl⟩
      go_wp2_with fail
      go_ret3
      exact retGF_no (below_drewN HB.out _)
    | true =>
      obtain rfl : d2 = false := by simpa using hv
      clear hv
      go_enter Try.func62, Try.ntmps62
      go_wp2_with fail
      refine HIS.out.mono ?_
      rintro e w1 ⟨rfl, n, hw1⟩
      have b1 : Below (w.alloc (.cells #[.int .i64 r, .int .i64 c, .slice a la ca, .slice b lb cb] 44)).heap.size (w.alloc (.cells #[.int .i64 r, .int .i64 c, .slice a la ca, .slice b lb cb] 44)) w1 := by rw [hw1]; exact below_drewN (Below.refl _ _) n
      have f0 := ((HX.out.below b1).2 0 _ rfl).1
      have HB1 := hid b1
      clear hw1 b1
      go_wp2_with fail
      refine (HC1.out _ HB1.out).mono ?_
      rintro e w2 ⟨rfl, n2, hw2⟩
      have b2 : Below (w.alloc (.cells #[.int .i64 r, .int .i64 c, .slice a la ca, .slice b lb cb] 44)).heap.size (w.alloc (.cells #[.int .i64 r, .int .i64 c, .slice a la ca, .slice b lb cb] 44)) w2 := by rw [hw2]; exact below_drewN HB1.out n2
      have f1 := ((HX.out.below b2).2 1 _ rfl).1
      have HB2 := hid b2
      clear hw2 b2 f0
      go_wp2_with fail
      refine (HC2.out _ HB2.out).mono ?_
      rintro e w3 ⟨rfl, n3, rfl⟩
      go_wp2_with fail
      go_ret3
      exact retGF_no (below_drewN (below_to HB.out HB2.out) n3)
set_option maxRecDepth 100000 in
set_option maxHeartbeats 16000000 in
theorem spGainsYes (r c : Int) (a : Option Addr) (la ca : Nat) (xs : List Int) (b : Option Addr) (lb cb : Nat) (ys : List Int) (m1 : Option Addr) (l1 k1 : Nat) (rs : List Nat) (m2 : Option Addr) (l2 k2 : Nat) (cs : List Nat) (w : World)
    (h : SlV (Value.int .i64) w a la xs) (g : SlV (Value.int .i64) w b lb ys) (h1 : SlV (Value.float .f32) w m1 l1 rs) (h2 : SlV (Value.float .f32) w m2 l2 cs) (hla : la ≤ 1048576) (hlb : lb ≤ 1048576) (hl1 : l1 ≤ 1048576) (hl2 : l2 ≤ 1048576) (hv : chB r c xs ys rs cs = true) :
    Calls Try.prog 62 #[.agg #[.int .i64 r, .int .i64 c, .slice a la ca, .slice b lb cb], .slice m1 l1 k1, .slice m2 l2 k2] w (GainR (allS xs c.toNat rs cs r.toNat) (allS ys c.toNat rs cs r.toNat) w) := by
  have bw : Below w.heap.size w (w.alloc (.cells #[.int .i64 r, .int .i64 c, .slice a la ca, .slice b lb cb] 44)) := Below.alloc (Below.refl _ _) (Nat.le_refl _) _
  have hbox : Box (w.alloc (.cells #[.int .i64 r, .int .i64 c, .slice a la ca, .slice b lb cb] 44)) w.heap.size [.int .i64 r, .int .i64 c, .slice a la ca, .slice b lb cb] := Box.new _ _ _
  have HIS := hid (l02Is r c a la ca xs b lb cb ys _ _ hbox (h.below bw) (g.below bw) hla hlb)
  have HC1 := hid (fun (w' : World) (hb : Below (w.alloc (.cells #[.int .i64 r, .int .i64 c, .slice a la ca, .slice b lb cb] 44)).heap.size (w.alloc (.cells #[.int .i64 r, .int .i64 c, .slice a la ca, .slice b lb cb] 44)) w') => chances m1 l1 k1 rs r w' ((h1.below bw).below hb) hl1)
  have HC2 := hid (fun (w' : World) (hb : Below (w.alloc (.cells #[.int .i64 r, .int .i64 c, .slice a la ca, .slice b lb cb] 44)).heap.size (w.alloc (.cells #[.int .i64 r, .int .i64 c, .slice a la ca, .slice b lb cb] 44)) w') => chances m2 l2 k2 cs c w' ((h2.below bw).below hb) hl2)
  have HX := hid hbox
  have HB := hid bw
  unfold chB at hv
  simp only [Bool.and_eq_true] at hv
  obtain ⟨⟨v0, v1⟩, v2⟩ := hv
  obtain ⟨rn, cn, rfl, rfl, hr1, hr2, hc1, hc2, h5, h7, h6, h8⟩ := validG_parts v0
  have e1 : l1 = rn := by rw [← h1.1]; have := v1.1; simp only [decide_eq_true_eq] at this; exact_mod_cast this
  have e2 : l2 = cn := by rw [← h2.1]; have := v2.1; simp only [decide_eq_true_eq] at this; exact_mod_cast this
  have q1 : (decide ((l1 : Int) = (rn : Int)) && rs.all okC) = true := by rw [← h1.1]; simpa using v1
  have q2 : (decide ((l2 : Int) = (cn : Int)) && cs.all okC) = true := by rw [← h2.1]; simpa using v2
  rw [v0] at HIS
  rw [q1] at HC1
  rw [q2] at HC2
  subst e1
  subst e2
  simp only [Int.toNat_natCast]
  obtain ⟨pa, oa, rfl, -, -⟩ := h.2 (by rw [← h.1, h5]; exact Nat.mul_pos hr1 hc1)
  obtain ⟨pb, ob, rfl, -, -⟩ := g.2 (by rw [← g.1, h7]; exact Nat.mul_pos hr1 hc1)
  obtain ⟨p1, o1, rfl, -, -⟩ := h1.2 (by omega)
  obtain ⟨p2, o2, rfl, -, -⟩ := h2.2 (by omega)
  have HLA : Hid (la = l1 * l2) := hid (by rw [← h.1]; exact h5)
  have HLB : Hid (lb = l1 * l2) := hid (by rw [← g.1]; exact h7)
  have HCL : Hid (∀ w', Below w.heap.size w w' → (∀ j, j < la → w'.cell? ⟨pa, oa + j, none⟩ = some (.int .i64 (xs.getD j 0))) ∧ (∀ j, j < lb → w'.cell? ⟨pb, ob + j, none⟩ = some (.int .i64 (ys.getD j 0))) ∧ (∀ j, j < l1 → w'.cell? ⟨p1, o1 + j, none⟩ = some (.float .f32 (rs.getD j 0))) ∧ (∀ j, j < l2 → w'.cell? ⟨p2, o2 + j, none⟩ = some (.float .f32 (cs.getD j 0)))) := hid (fun w' b => ⟨slv_at (h.below b), slv_at (g.below b), slv_at (h1.below b), slv_at (h2.below b)⟩)
  clear q1 q2 v0 v1 v2 bw hbox h g h1 h2 h5 h7 h6 h8
  go_enter Try.func62, Try.ntmps62
  go_wp2_with fail
  refine HIS.out.mono ?_
  rintro e w1 ⟨rfl, n, hw1⟩
  have b1 : Below (w.alloc (.cells #[.int .i64 (l1 : Int), .int .i64 (l2 : Int), .slice (some ⟨pa, oa, none⟩) la ca, .slice (some ⟨pb, ob, none⟩) lb cb] 44)).heap.size (w.alloc (.cells #[.int .i64 (l1 : Int), .int .i64 (l2 : Int), .slice (some ⟨pa, oa, none⟩) la ca, .slice (some ⟨pb, ob, none⟩) lb cb] 44)) w1 := by rw [hw1]; exact below_drewN (Below.refl _ _) n
  have f0 := ((HX.out.below b1).2 0 _ rfl).1
  have HB1 := hid b1
  clear hw1 b1
  go_wp2_with fail
  refine (HC1.out _ HB1.out).mono ?_
  rintro e w2 ⟨rfl, n2, hw2⟩
  have b2 := below_drewN HB1.out n2
  rw [← hw2] at b2
  have f1 := ((HX.out.below b2).2 1 _ rfl).1
  have HB2 := hid b2
  clear hw2 b2 f0
  go_wp2_with fail
  refine (HC2.out _ HB2.out).mono ?_
  rintro e w3 ⟨rfl, n3, hw3⟩
  have b3 := below_drewN HB2.out n3
  rw [← hw3] at b3
  have HX3 := hid (HX.out.below b3)
  have HB3 := hid (below_to HB.out b3)
  clear hw3 b3 f1
  go_wp2_with fail
  go_loopw [9, 10, 11] (fun x y i wr => ∃ (j r0 r1 : Nat), j ≤ l1 ∧ i = .int .i64 (j : Int) ∧ x = .float .f32 r0 ∧ y = .float .f32 r1 ∧ Sim .f32 r0 (allS xs l2 rs cs j) ∧ Sim .f32 r1 (allS ys l2 rs cs j) ∧ Fits .f32 r0 ∧ Fits .f32 r1 ∧ Below w3.heap.size w3 wr) (fun _ _ i _ => l1 - (intOf i).toNat)
  case atStart => exact ⟨0, 0, 0, Nat.zero_le _, rfl, rfl, rfl, Sim.refl _ _, Sim.refl _ _, zero32, zero32, Below.refl _ _⟩
  case round =>
    obtain ⟨j, r0, r1, hj, rfl, rfl, rfl, hs0, hs1, hf0, hf1, hbel⟩ := hrel
    have HS0 := hid hs0
    have HS1 := hid hs1
    have HF0 := hid hf0
    have HF1 := hid hf1
    have HBEL := hid hbel
    have hbx := HX3.out.below hbel
    have f0 := (hbx.2 0 _ rfl).1
    clear hs0 hs1 hf0 hf1 hbel hbx
    by_cases hlt : j < l1
    · have HNXA : Hid (allS xs l2 rs cs (j + 1) = rowS xs l2 rs cs j (allS xs l2 rs cs j) l2) := hid rfl
      have HNXB : Hid (allS ys l2 rs cs (j + 1) = rowS ys l2 rs cs j (allS ys l2 rs cs j) l2) := hid rfl
      obtain ⟨A0, hA0⟩ : ∃ A, allS xs l2 rs cs j = A := ⟨_, rfl⟩
      obtain ⟨B0, hB0⟩ : ∃ A, allS ys l2 rs cs j = A := ⟨_, rfl⟩
      rw [hA0] at HS0 HNXA
      rw [hB0] at HS1 HNXB
      clear hA0 hB0
      go_wp2_with fail
      go_loopw [9, 10, 12] (fun x y i wq => ∃ (k s0 s1 : Nat), k ≤ l2 ∧ i = .int .i64 (k : Int) ∧ x = .float .f32 s0 ∧ y = .float .f32 s1 ∧ Sim .f32 s0 (rowS xs l2 rs cs j A0 k) ∧ Sim .f32 s1 (rowS ys l2 rs cs j B0 k) ∧ Fits .f32 s0 ∧ Fits .f32 s1 ∧ Below w3.heap.size w3 wq) (fun _ _ i _ => l2 - (intOf i).toNat)
      case atStart => exact ⟨0, r0, r1, Nat.zero_le _, rfl, rfl, rfl, HS0.out, HS1.out, HF0.out, HF1.out, HBEL.out⟩
      case round =>
        obtain ⟨k, s0, s1, hk, rfl, rfl, rfl, hs0, hs1, hf0, hf1, hbel⟩ := hrel
        rename World => wq
        have HS0 := hid hs0
        have HS1 := hid hs1
        have HF0 := hid hf0
        have HF1 := hid hf1
        have HBEL := hid hbel
        have hbx := HX3.out.below hbel
        have f1 := (hbx.2 1 _ rfl).1
        have f2 := (hbx.2 2 _ rfl).1
        have f3 := (hbx.2 3 _ rfl).1
        clear hs0 hs1 hf0 hf1 hbel hbx
        by_cases hlt2 : k < l2
        · have HNA : Hid (rowS xs l2 rs cs j A0 (k + 1) = fop .add .f32 (rowS xs l2 rs cs j A0 k) (fop .mul .f32 (fop .mul .f32 (rs.getD j 0) (cs.getD k 0)) (floatOfInt .f32 (xs.getD (j * l2 + k) 0)))) := hid rfl
          have HNB : Hid (rowS ys l2 rs cs j B0 (k + 1) = fop .add .f32 (rowS ys l2 rs cs j B0 k) (fop .mul .f32 (fop .mul .f32 (rs.getD j 0) (cs.getD k 0)) (floatOfInt .f32 (ys.getD (j * l2 + k) 0)))) := hid rfl
          have hix := idx_lt hlt hlt2
          obtain ⟨c1, c2, c3, c4⟩ := HCL.out wq (below_to HB3.out HBEL.out)
          have d1 : wq.cell? ⟨p1, o1 + j, none⟩ = some (.float .f32 (rs.getD j 0)) := c3 j hlt
          have d2 : wq.cell? ⟨p2, o2 + k, none⟩ = some (.float .f32 (cs.getD k 0)) := c4 k hlt2
          have d3 := c1 (j * l2 + k) (by rw [HLA.out]; exact hix)
          have d4 := c2 (j * l2 + k) (by rw [HLB.out]; exact hix)
          clear c1 c2 c3 c4
          have hb36 : l1 * l2 ≤ 36 := Nat.mul_le_mul hr2 hc2
          have hla36 : la ≤ 36 := by rw [HLA.out]; exact hb36
          have hia : j * l2 + k < la := by rw [HLA.out]; exact hix
          have hib : j * l2 + k < lb := by rw [HLB.out]; exact hix
          have e1 : (j : Int) * (l2 : Int) = ((j * l2 : Nat) : Int) := by push_cast; rfl
          obtain ⟨z1, hz1⟩ : ∃ z, j * l2 = z := ⟨_, rfl⟩
          rw [hz1] at e1 d3 d4 HNA HNB hia hib
          obtain ⟨z2, hz2⟩ : ∃ z, z1 + k = z := ⟨_, rfl⟩
          have e2 : (z1 : Int) + (k : Int) = (z2 : Int) := by omega
          rw [hz2] at d3 d4 HNA HNB hia hib
          have t1 : IntKind.i64.wrap (z1 : Int) = (z1 : Int) := IntWalk.i64_in _ (by omega)
          have t2 : IntKind.i64.wrap (z2 : Int) = (z2 : Int) := IntWalk.i64_in _ (by omega)
          clear hz1 hz2 hix hb36 hla36
          obtain ⟨x, hx⟩ : ∃ x, rs.getD j 0 = x := ⟨_, rfl⟩
          obtain ⟨y, hy⟩ : ∃ x, cs.getD k 0 = x := ⟨_, rfl⟩
          obtain ⟨u1, hu1⟩ : ∃ u, xs.getD z2 0 = u := ⟨_, rfl⟩
          obtain ⟨u2, hu2⟩ : ∃ u, ys.getD z2 0 = u := ⟨_, rfl⟩
          have d3' : wq.cell? ⟨pa, oa + z2, none⟩ = some (.int .i64 u1) := by rw [← hu1]; exact d3
          have d4' : wq.cell? ⟨pb, ob + z2, none⟩ = some (.int .i64 u2) := by rw [← hu2]; exact d4
          rw [hx] at d1 HNA HNB
          rw [hy] at d2 HNA HNB
          rw [hu1] at HNA
          rw [hu2] at HNB
          clear hx hy hu1 hu2 d3 d4
          obtain ⟨S0, hS0⟩ : ∃ A, rowS xs l2 rs cs j A0 k = A := ⟨_, rfl⟩
          obtain ⟨S1, hS1⟩ : ∃ A, rowS ys l2 rs cs j B0 k = A := ⟨_, rfl⟩
          rw [hS0] at HS0 HNA
          rw [hS1] at HS1 HNB
          clear hS0 hS1
          have i1 : (0 : Int) ≤ (z2 : Int) := by omega
          have i2 : (z2 : Int) < (la : Int) := by omega
          have i3 : (z2 : Int) < (lb : Int) := by omega
          have i4 : (0 : Int) ≤ (j : Int) := by omega
          have i5 : (0 : Int) ≤ (k : Int) := by omega
          obtain ⟨fm, hm1, hm2⟩ := pick_farith Try.prog .mul rfl .f32
          have HM := hid hm2
          clear hm2
          go_wp2_with fail
          go_region
          have hm3 := HM.out x y wq.drew
          clear hm1
          generalize fm x y wq.drew = pq at hm3 ⊢
          obtain ⟨c0, nc⟩ := pq
          simp only at hm3 ⊢
          obtain ⟨hc0, hfc⟩ := hm3
          clear HM
          go_wp2_with (first
            | (refine wpList_fsim rfl .mul _ _ _ _ rfl rfl .f32 _ _ rfl rfl (by with_reducible assumption) (Sim.refl _ _) ?_; intro r n hr hb)
            | (refine wpList_fsim rfl .add _ _ _ _ rfl rfl .f32 _ _ rfl rfl (by first | with_reducible assumption | exact HS0.out | exact HS1.out) (by with_reducible assumption) ?_; intro r n hr hb))
          go_roundw
          case rel => exact ⟨k + 1, _, _, by omega, by go_num, rfl, rfl, by rw [HNA.out]; with_reducible assumption, by rw [HNB.out]; with_reducible assumption, by with_reducible assumption, by with_reducible assumption, below_drewN HBEL.out _⟩
          case measure => simp [intOf]; omega
        · obtain rfl : k = l2 := by omega
          go_wp2_with fail
          go_roundw
          case rel => exact ⟨j + 1, s0, s1, by omega, by go_num, rfl, rfl, by rw [HNXA.out]; exact HS0.out, by rw [HNXB.out]; exact HS1.out, HF0.out, HF1.out, HBEL.out⟩
          case measure => simp [intOf]; omega
    · obtain rfl : j = l1 := by omega
      have g1 := fun w' => spFin r0 w'
      have g2 := fun w' => spFin r1 w'
      rw [isFin_congr HS0.out] at g1
      rw [isFin_congr HS1.out] at g2
      have HG1 := hid g1
      have HG2 := hid g2
      clear g1 g2
      obtain ⟨A0, hA0⟩ : ∃ A, allS xs l2 rs cs j = A := ⟨_, rfl⟩
      obtain ⟨B0, hB0⟩ : ∃ A, allS ys l2 rs cs j = A := ⟨_, rfl⟩
      rw [hA0] at HS0 HG1
      rw [hB0] at HS1 HG2
      have HA0 := hid hA0
      have HB0 := hid hB0
      clear hA0 hB0
      have HBZ := hid (below_to HB3.out HBEL.out)
      obtain ⟨d1, hd1⟩ : ∃ d, isFin .f32 A0 = d := ⟨_, rfl⟩
      obtain ⟨d2, hd2⟩ : ∃ d, isFin .f32 B0 = d := ⟨_, rfl⟩
      have HD1 := hid hd1
      have HD2 := hid hd2
      rw [hd1] at HG1
      rw [hd2] at HG2
      clear hd1 hd2
      cases d1 with
      | false =>
        go_wp2_with (go_at_call 106; refine (HG1.out _).mono ?_; rintro e w9 ⟨rfl, n9, rfl⟩)
        go_ret3
        rw [GainR, HA0.out, HB0.out, HD1.out, HD2.out]
        exact retGF_no (below_drewN HBZ.out _)
      | true =>
        go_wp2_with fail
        refine (HG1.out _).mono ?_
        rintro e w9 ⟨rfl, n9, rfl⟩
        go_wp2_with fail
        refine (HG2.out _).mono ?_
        rintro e w9 ⟨rfl, n8, rfl⟩
        cases d2 with
        | false =>
          go_wp2_with fail
          go_ret3
          rw [GainR, HA0.out, HB0.out, HD1.out, HD2.out]
          exact retGF_no (below_drewN HBZ.out _)
        | true =>
          go_wp2_with fail
          go_ret3
          rw [GainR, HA0.out, HB0.out, HD1.out, HD2.out]
          exact ⟨r0, r1, rfl, HS0.out, HS1.out, HF0.out, HF1.out, below_drewN HBZ.out _⟩
end TryWalk
end Go.Proofs.Ytlbmmecjiopbbaa
