/- The law FnExactGainsOf, walked. No condition. -/
import Derived.Test.YtlbmmecjiopbbaaWf3
namespace Go.Proofs.Ytlbmmecjiopbbaa
open Go.RowKit Flo Sl Pg
set_option linter.unusedVariables false
namespace TryWalk
set_option maxRecDepth 100000 in
set_option maxHeartbeats 8000000 in
theorem fnExactGainsOf (p00 : Int) (p01 : Int) (a00 : Option Addr) (l00 c00 : Nat) (x00 : List Int) (a01 : Option Addr) (l01 c01 : Nat) (x01 : List Int) (a1 : Option Addr) (l1 c1 : Nat) (x1 : List Nat) (a2 : Option Addr) (l2 c2 : Nat) (x2 : List Nat) (w : World) (hwp00 : (Lit.int .i64 p00).wf = true) (hwp01 : (Lit.int .i64 p01).wf = true) (hra00 : IsRow .i64 w a00 l00 c00 x00) (hra01 : IsRow .i64 w a01 l01 c01 x01) (hr1 : IsRowF .f32 w a1 l1 c1 x1) (hr2 : IsRowF .f32 w a2 l2 c2 x2) : Calls Try.prog 16 #[.agg #[.int .i64 p00, .int .i64 p01, .slice a00 l00 c00, .slice a01 l01 c01], .slice a1 l1 c1, .slice a2 l2 c2] w (RetD true w) := by
  clear hwp00 hwp01
  obtain ⟨hsa00, -, hma00⟩ := hra00
  obtain ⟨hsa01, -, hma01⟩ := hra01
  obtain ⟨hs1, hv1, hm1⟩ := hr1
  obtain ⟨hs2, hv2, hm2⟩ := hr2
  have HS0 := hid hsa00
  have HS1 := hid hsa01
  have HT1 := hid hs1
  have HT2 := hid hs2
  have HV1 := hid hv1
  have HV2 := hid hv2
  clear hsa00 hsa01 hs1 hs2 hv1 hv2
  unfold maxLen at hm1 hm2
  have bw : Below w.heap.size w (w.alloc (.cells #[.int .i64 p00, .int .i64 p01, .slice a00 l00 c00, .slice a01 l01 c01] 41)) := Below.alloc (Below.refl _ _) (Nat.le_refl _) _
  by_cases hb1 : 1048576 < l1
  · have HB := hid bw
    clear bw
    go_enter Try.func16, Try.ntmps16
    go_wp2_with fail
    go_ret
    exact ⟨rfl, HB.out⟩
  by_cases hb2 : 1048576 < l2
  · have HB := hid bw
    clear bw
    go_enter Try.func16, Try.ntmps16
    go_wp2_with fail
    go_ret
    exact ⟨rfl, HB.out⟩
  have hl1 : l1 ≤ 1048576 := by omega
  have hl2 : l2 ≤ 1048576 := by omega
  have hd1 : decide (1048576 < (l1 : Int)) = false := by simp; omega
  have hd2 : decide (1048576 < (l2 : Int)) = false := by simp; omega
  have bx0 : Box (w.alloc (.cells #[.int .i64 p00, .int .i64 p01, .slice a00 l00 c00, .slice a01 l01 c01] 41)) w.heap.size [.int .i64 p00, .int .i64 p01, .slice a00 l00 c00, .slice a01 l01 c01] := Box.new _ _ _
  clear hb1 hb2 hm1 hm2
  have HBW := hid bw
  clear bw
  go_enter Try.func16, Try.ntmps16
  go_wp2_with fail
  refine (szGAny p00 p01 a00 l00 c00 a01 l01 c01 1048576 _ (Nat.le_refl _) hma00 hma01).mono ?_
  rintro e w1 ⟨r, rfl, b1, (⟨rfl, h1⟩ | ⟨rfl, h1⟩)⟩
  · have bw1 : Below w.heap.size w w1 := below_to HBW.out b1
    go_wp2_with fail
    go_ret
    exact ⟨rfl, bw1⟩
  have bW : Below w.heap.size w w1 := below_to HBW.out b1
  have bx0 := bx0.below b1
  have hla : l00 ≤ 1048576 := by omega
  have hlb : l01 ≤ 1048576 := by omega
  clear b1 h1 HBW
  obtain ⟨F0, F1, D, hboth⟩ := bothGains p00 p01 l00 x00 hla l01 x01 hlb l1 x1 hl1 l2 x2 hl2
  have HBOTH := hid hboth
  clear hboth
  have hDD : (D != D) = false := by simp
  have f0 := (bx0.2 0 _ rfl).1
  have f1 := (bx0.2 1 _ rfl).1
  have f2 := (bx0.2 2 _ rfl).1
  have f3 := (bx0.2 3 _ rfl).1
  go_wp2_with fail
  refine (toG p00 p01 a00 l00 c00 x00 a01 l01 c01 x01 _ (HS0.out.below bW) (HS1.out.below bW) hla hlb).mono ?_
  rintro e w2 ⟨A0, A1, rfl, s0, s1, b⟩
  clear f0 f1 f2 f3
  have bx0 := bx0.below b
  have bW := below_to bW b
  clear b
  go_wp2_with fail
  refine (toF a1 l1 c1 x1 _ (HT1.out.below bW) hl1).mono ?_
  rintro e w3 ⟨A2, rfl, s2, b⟩
  have bx0 := bx0.below b
  have s0 := s0.below b
  have s1 := s1.below b
  have bW := below_to bW b
  clear b
  go_wp2_with fail
  refine (toF a2 l2 c2 x2 _ (HT2.out.below bW) hl2).mono ?_
  rintro e w4 ⟨A3, rfl, s3, b⟩
  have bx0 := bx0.below b
  have s0 := s0.below b
  have s1 := s1.below b
  have s2 := s2.below b
  have bW := below_to bW b
  clear b
  go_wp2_with fail
  refine (HBOTH.out _ _ _ _ _ _ _ _ _ s0 s1 s2 s3).1.mono ?_
  rintro e w5 ⟨r0, r1, rfl, hs0, hs1, hf0, hf1, b⟩
  clear s0 s1 s2 s3
  have bx0 := bx0.below b
  have bW := below_to bW b
  clear b
  have f0 := (bx0.2 0 _ rfl).1
  have f1 := (bx0.2 1 _ rfl).1
  have f2 := (bx0.2 2 _ rfl).1
  have f3 := (bx0.2 3 _ rfl).1
  go_wp2_with fail
  refine (toG p00 p01 a00 l00 c00 x00 a01 l01 c01 x01 _ (HS0.out.below bW) (HS1.out.below bW) hla hlb).mono ?_
  rintro e w6 ⟨B0, B1, rfl, t0, t1, b⟩
  clear f0 f1 f2 f3
  have bx0 := bx0.below b
  have bW := below_to bW b
  clear b
  have hal : Below w6.heap.size w6 (w6.alloc (.cells #[.int .i64 p00, .int .i64 p01, .slice B0 l00 l00, .slice B1 l01 l01] 44)) := Below.alloc (Below.refl _ _) (Nat.le_refl _) _
  have bx0 := bx0.below hal
  have t0 := t0.below hal
  have t1 := t1.below hal
  have bW := below_to bW hal
  clear hal
  have ex0 : Box (w6.alloc (.cells #[.int .i64 p00, .int .i64 p01, .slice B0 l00 l00, .slice B1 l01 l01] 44)) w6.heap.size [.int .i64 p00, .int .i64 p01, .slice B0 l00 l00, .slice B1 l01 l01] := Box.new _ _ _
  go_wp2_with fail
  refine (toF a1 l1 c1 x1 _ (HT1.out.below bW) hl1).mono ?_
  rintro e w7 ⟨B2, rfl, t2, b⟩
  have bx0 := bx0.below b
  have t0 := t0.below b
  have t1 := t1.below b
  have ex0 := ex0.below b
  have bW := below_to bW b
  clear b
  go_wp2_with fail
  refine (toF a2 l2 c2 x2 _ (HT2.out.below bW) hl2).mono ?_
  rintro e w8 ⟨B3, rfl, t3, b⟩
  have bx0 := bx0.below b
  have t0 := t0.below b
  have t1 := t1.below b
  have ex0 := ex0.below b
  have t2 := t2.below b
  have bW := below_to bW b
  clear b
  have g0 := (ex0.2 0 _ rfl).1
  have g1 := (ex0.2 1 _ rfl).1
  have g2 := (ex0.2 2 _ rfl).1
  have g3 := (ex0.2 3 _ rfl).1
  go_wp2_with fail
  refine (HBOTH.out _ _ _ _ _ _ _ _ _ t0 t1 t2 t3).2.mono ?_
  rintro e w9 ⟨q0, q1, rfl, js0, js1, jf0, jf1, b⟩
  clear g0 g1 g2 g3
  have bx0 := bx0.below b
  have t0 := t0.below b
  have t1 := t1.below b
  have ex0 := ex0.below b
  have t2 := t2.below b
  have t3 := t3.below b
  have bW := below_to bW b
  clear b
  go_wp2_with (refine wpList_up rfl _ _ _ rfl _ rfl (by with_reducible assumption) u65 Try.underlying70 (by with_reducible assumption) ?_; intro r n hr hb)
  refine (sameFloat _ _ _ (Sim.trans (by with_reducible assumption) (Sim.symm (by with_reducible assumption)))).mono ?_
  rintro e w' ⟨rfl, n5, rfl⟩
  go_wp2_with (refine wpList_up rfl _ _ _ rfl _ rfl (by with_reducible assumption) u65 Try.underlying70 (by with_reducible assumption) ?_; intro r n hr hb)
  refine (sameFloat _ _ _ (Sim.trans (by with_reducible assumption) (Sim.symm (by with_reducible assumption)))).mono ?_
  rintro e w10 ⟨rfl, n6, hw10⟩
  have b : Below w9.heap.size w9 w10 := by rw [hw10]; repeat (first | exact Below.refl _ _ | refine below_drewN ?_ _)
  clear hw10
  have bx0 := bx0.below b
  have t0 := t0.below b
  have t1 := t1.below b
  have ex0 := ex0.below b
  have t2 := t2.below b
  have t3 := t3.below b
  have bW := below_to bW b
  clear b
  have f0 := (bx0.2 0 _ rfl).1
  have f1 := (bx0.2 1 _ rfl).1
  have f2 := (bx0.2 2 _ rfl).1
  have f3 := (bx0.2 3 _ rfl).1
  have g0 := (ex0.2 0 _ rfl).1
  have g1 := (ex0.2 1 _ rfl).1
  have g2 := (ex0.2 2 _ rfl).1
  have g3 := (ex0.2 3 _ rfl).1
  go_upto_region 16 with (fail)
  go_cut [76] (fun sv wx => sv = .bool false ∧ SlV (Value.float .f32) wx B2 l1 x1 ∧ SlV (Value.float .f32) wx B3 l2 x2 ∧ Below w.heap.size w wx)
  case first =>
    go_region_with (first
      | (go_at_call 35
         refine (toG p00 p01 a00 l00 c00 x00 a01 l01 c01 x01 _ (HS0.out.below bW.drew) (HS1.out.below bW.drew) hla hlb).mono ?_
         rintro e we ⟨E0, E1, rfl, u0, u1, b⟩
         have be : Below w10.heap.size w10 we := below_to (Below.refl w10.heap.size w10).drew b
         have g0 := ((ex0.below be).2 0 _ rfl).1
         have g1 := ((ex0.below be).2 1 _ rfl).1
         have g2 := ((ex0.below be).2 2 _ rfl).1
         have g3 := ((ex0.below be).2 3 _ rfl).1
         have f0 := ((bx0.below be).2 0 _ rfl).1
         have f1 := ((bx0.below be).2 1 _ rfl).1
         have f2 := ((bx0.below be).2 2 _ rfl).1
         have f3 := ((bx0.below be).2 3 _ rfl).1)
      | (go_at_call 37
         refine (eqGSelf p00 p01 _ _ l00 _ _ x00 _ _ l01 _ _ x01 _ (t0.below be) u0 hla (t1.below be) u1 hlb).mono ?_
         rintro e wf ⟨rfl, b⟩
         have bf : Below w10.heap.size w10 wf := below_to be b))
    all_goals (go_wp2_with fail; go_meet; exact ⟨rfl, t2.below bf, t3.below bf, below_to bW bf⟩)
  case rest =>
    clear f0 f1 f2 f3 g0 g1 g2 g3
    clear bx0 ex0 t0 t1 t2 t3
    obtain ⟨rfl, t2, t3, bK⟩ := hcut
    rename World => wk
    go_wp2_with fail
    refine (toF a1 l1 c1 x1 _ (HT1.out.below bK) hl1).mono ?_
    rintro e w11 ⟨D2, rfl, v2, b⟩
    have t2 := t2.below b
    have t3 := t3.below b
    have bK := below_to bK b
    clear b
    go_wp2_with fail
    refine (eqF _ _ l1 _ _ x1 _ t2 v2 HV1.out hl1).mono ?_
    rintro e w12 ⟨rfl, n, hw12⟩
    have b : Below w11.heap.size w11 w12 := by rw [hw12]; exact below_drewN (Below.refl _ _) n
    clear hw12 t2 v2
    have t3 := t3.below b
    have bK := below_to bK b
    clear b
    go_wp2_with fail
    refine (toF a2 l2 c2 x2 _ (HT2.out.below bK) hl2).mono ?_
    rintro e w13 ⟨D3, rfl, v3, b⟩
    have t3 := t3.below b
    have bK := below_to bK b
    clear b
    go_wp2_with fail
    refine (eqF _ _ l2 _ _ x2 _ t3 v3 HV2.out hl2).mono ?_
    rintro e w14 ⟨rfl, n, rfl⟩
    go_wp2_with fail
    go_ret
    exact ⟨rfl, below_drewN bK n⟩
end TryWalk
end Go.Proofs.Ytlbmmecjiopbbaa
