/- The law FnExactZeroSum, walked. No condition. -/
import Derived.Test.YtlbmmecjiopbbaaWz3
namespace Go.Proofs.Ytlbmmecjiopbbaa
open Go.RowKit Flo Sl Pg
set_option linter.unusedVariables false
namespace TryWalk
set_option maxRecDepth 100000 in
set_option maxHeartbeats 8000000 in
theorem fnExactZeroSum (r c : Int) (a : Option Addr) (len cap : Nat) (xs : List Int) (w : World) (hwr : (Lit.int .i64 r).wf = true) (hwc : (Lit.int .i64 c).wf = true) (hrow : IsRow .i64 w a len cap xs) : Calls Try.prog 9 #[.int .i64 r, .int .i64 c, .slice a len cap] w (RetD true w) := by
  obtain ⟨hs, hv, hm⟩ := hrow
  clear hwr hwc hv
  unfold maxLen at hm
  have HS := hid hs
  clear hs
  by_cases hbig : 1048576 < len
  · go_enter Try.func9, Try.ntmps9
    go_wp2_with fail
    go_ret
    exact ⟨rfl, Below.refl _ _⟩
  have hl : len ≤ 1048576 := by omega
  have hd : decide (1048576 < (len : Int)) = false := by simp; omega
  clear hbig
  obtain ⟨R, C, n, A, B, D, hn, hboth⟩ := bothZero r c len xs hl
  have HBOTH := hid hboth
  clear hboth
  have hDD : (D != D) = false := by simp
  go_enter Try.func9, Try.ntmps9
  go_wp2_with fail
  refine (toI2 a len cap xs _ HS.out hl).mono ?_
  rintro e w1 ⟨rfl, s1, b, hlt1⟩
  have bW : Below w.heap.size w w1 := b
  have HNW : Hid (w.heap.size ≤ w1.heap.size) := hid b.size
  clear b
  go_wp2_with fail
  refine (HBOTH.out _ _ _ s1.slv).1.mono ?_
  rintro e w2 ⟨a0, c0, b0, d0, m0, rfl, oa0, ob0, h1, h2, b⟩
  have H1 := hid h1
  have H2 := hid h2
  clear h1 h2 s1 hlt1
  have bW := below_to bW b
  clear b
  have hal : Below w2.heap.size w2 (w2.alloc (.cells #[.int .i64 R, .int .i64 C, .slice a0 n c0, .slice b0 n d0] 44)) := Below.alloc (Below.refl _ _) (Nat.le_refl _) _
  have bx0 : Box (w2.alloc (.cells #[.int .i64 R, .int .i64 C, .slice a0 n c0, .slice b0 n d0] 44)) w2.heap.size [.int .i64 R, .int .i64 C, .slice a0 n c0, .slice b0 n d0] := Box.new _ _ _
  have HZ3 : Hid ((w2.alloc (.cells #[.int .i64 R, .int .i64 C, .slice a0 n c0, .slice b0 n d0] 44)).heap.size = w2.heap.size + 1) := hid (by simp)
  have oa0 := oa0.below hal
  have ob0 := ob0.below hal
  have bW := below_to bW hal
  clear hal
  go_wp2_with fail
  refine (toI2 a len cap xs _ (HS.out.below bW) hl).mono ?_
  rintro e w4 ⟨rfl, ox, b, hlt⟩
  have oa0 := oa0.below b
  have ob0 := ob0.below b
  have bx0 := bx0.below b
  have bW := below_to bW b
  clear b
  rw [HZ3.out] at ox hlt ⊢
  have H4 : Hid (w2.heap.size + 1 < w4.heap.size) := hid hlt
  clear hlt
  go_wp2_with fail
  refine (HBOTH.out _ _ _ ox.slv).2.mono ?_
  rintro e w5 ⟨a5, c5, b5, d5, m5, rfl, oa5, ob5, h1, h2, b⟩
  have H5 := hid h1
  have H6 := hid h2
  clear h1 h2
  have oa0 := oa0.below b
  have ob0 := ob0.below b
  have bx0 := bx0.below b
  have ox := ox.below b
  have bW := below_to bW b
  clear b
  have hal : Below w5.heap.size w5 (w5.alloc (.cells #[.int .i64 R, .int .i64 C, .slice a5 n c5, .slice b5 n d5] 44)) := Below.alloc (Below.refl _ _) (Nat.le_refl _) _
  have bx5 : Box (w5.alloc (.cells #[.int .i64 R, .int .i64 C, .slice a5 n c5, .slice b5 n d5] 44)) w5.heap.size [.int .i64 R, .int .i64 C, .slice a5 n c5, .slice b5 n d5] := Box.new _ _ _
  have oa0 := oa0.below hal
  have ob0 := ob0.below hal
  have bx0 := bx0.below hal
  have ox := ox.below hal
  have oa5 := oa5.below hal
  have ob5 := ob5.below hal
  have bW := below_to bW hal
  clear hal
  have f0 := (bx0.2 0 _ rfl).1
  have f1 := (bx0.2 1 _ rfl).1
  have f2 := (bx0.2 2 _ rfl).1
  have f3 := (bx0.2 3 _ rfl).1
  have g0 := (bx5.2 0 _ rfl).1
  have g1 := (bx5.2 1 _ rfl).1
  have g2 := (bx5.2 2 _ rfl).1
  have g3 := (bx5.2 3 _ rfl).1
  go_wp2_with fail
  refine (eqGSelf R C _ _ n _ _ A _ _ n _ _ B _ oa5.slv oa0.slv hn ob5.slv ob0.slv hn).mono ?_
  rintro e w7 ⟨rfl, b⟩
  clear f0 f1 f2 f3
  clear g0 g1 g2 g3
  have oa0 := oa0.below b
  have ob0 := ob0.below b
  have bx0 := bx0.below b
  have ox := ox.below b
  have oa5 := oa5.below b
  have ob5 := ob5.below b
  have bx5 := bx5.below b
  have bW := below_to bW b
  clear b
  go_wp2_with fail
  refine (toI2 a len cap xs _ (HS.out.below bW) hl).mono ?_
  rintro e w8 ⟨rfl, oy, b, -⟩
  have oa0 := oa0.below b
  have ob0 := ob0.below b
  have bx0 := bx0.below b
  have ox := ox.below b
  have oa5 := oa5.below b
  have ob5 := ob5.below b
  have bx5 := bx5.below b
  have bW := below_to bW b
  clear b
  go_wp2_with fail
  refine (eqISelf _ _ len _ _ xs _ ox.slv oy.slv hl).mono ?_
  rintro e w9 ⟨rfl, b⟩
  have oa0 := oa0.below b
  have ob0 := ob0.below b
  have bx0 := bx0.below b
  have ox := ox.below b
  have oa5 := oa5.below b
  have ob5 := ob5.below b
  have bx5 := bx5.below b
  have bW := below_to bW b
  clear b oy
  go_wp2_with fail
  refine (markI (w2.heap.size + 1) (w2.heap.size + 1 + 1) _ len _ xs 1 _ ox hl (by omega)).mono ?_
  rintro e w10 ⟨rfl, -, mm⟩
  clear ox
  have oa0 := oa0.mid mm (.inl (by have q1 := H1.out; have q2 := H2.out; have q4 := H4.out; have q5 := H5.out; have q6 := H6.out; omega))
  have ob0 := ob0.mid mm (.inl (by have q1 := H1.out; have q2 := H2.out; have q4 := H4.out; have q5 := H5.out; have q6 := H6.out; omega))
  have bx0 := bx0.mid mm (.inl (by have q1 := H1.out; have q2 := H2.out; have q4 := H4.out; have q5 := H5.out; have q6 := H6.out; omega))
  have oa5 := oa5.mid mm (.inr (by have q1 := H1.out; have q2 := H2.out; have q4 := H4.out; have q5 := H5.out; have q6 := H6.out; omega))
  have ob5 := ob5.mid mm (.inr (by have q1 := H1.out; have q2 := H2.out; have q4 := H4.out; have q5 := H5.out; have q6 := H6.out; omega))
  have bx5 := bx5.mid mm (.inr (by have q1 := H1.out; have q2 := H2.out; have q4 := H4.out; have q5 := H5.out; have q6 := H6.out; omega))
  have hwW3 : w.heap.size ≤ w2.heap.size + 1 := by have := HNW.out; have := H1.out; have := H2.out; omega
  have bW := bW.trans (mm.below hwW3 bW.size)
  clear mm
  obtain ⟨k1, hk1⟩ : ∃ k, 1 + len = k := ⟨_, rfl⟩
  have hkb : (0 : Int) ≤ (k1 : Int) := by omega
  rw [hk1]
  clear hk1
  have f0 := (bx0.2 0 _ rfl).1
  have f1 := (bx0.2 1 _ rfl).1
  have f2 := (bx0.2 2 _ rfl).1
  have f3 := (bx0.2 3 _ rfl).1
  have g0 := (bx5.2 0 _ rfl).1
  have g1 := (bx5.2 1 _ rfl).1
  have g2 := (bx5.2 2 _ rfl).1
  have g3 := (bx5.2 3 _ rfl).1
  go_wp2_with fail
  refine (eqGSelf R C _ _ n _ _ A _ _ n _ _ B _ oa5.slv oa0.slv hn ob5.slv ob0.slv hn).mono ?_
  rintro e w11 ⟨rfl, b⟩
  clear f0 f1 f2 f3
  clear g0 g1 g2 g3
  have oa0 := oa0.below b
  have ob0 := ob0.below b
  have bx0 := bx0.below b
  have oa5 := oa5.below b
  have ob5 := ob5.below b
  have bx5 := bx5.below b
  have bW := below_to bW b
  clear b
  have g0 := (bx5.2 0 _ rfl).1
  have g1 := (bx5.2 1 _ rfl).1
  have g2 := (bx5.2 2 _ rfl).1
  have g3 := (bx5.2 3 _ rfl).1
  go_wp2_with fail
  refine (markG2 R C w4.heap.size m5 w5.heap.size a5 n c5 A b5 n d5 B 1 _ oa5 ob5 (by have z := bx5.1; have q6 := H6.out; omega) (by have z := bx5.1; omega) H5.out H6.out hn hn (by omega)).mono ?_
  rintro e w12 ⟨rfl, mm, pa5, pb5⟩
  clear g0 g1 g2 g3
  clear oa5 ob5
  have oa0 := oa0.mid mm (.inl (by have q1 := H1.out; have q2 := H2.out; have q4 := H4.out; have q5 := H5.out; have q6 := H6.out; omega))
  have ob0 := ob0.mid mm (.inl (by have q1 := H1.out; have q2 := H2.out; have q4 := H4.out; have q5 := H5.out; have q6 := H6.out; omega))
  have bx0 := bx0.mid mm (.inl (by have q1 := H1.out; have q2 := H2.out; have q4 := H4.out; have q5 := H5.out; have q6 := H6.out; omega))
  have bx5 := bx5.mid mm (.inr (Nat.le_refl _))
  have bW := bW.trans (mm.below (by have := H4.out; omega) bW.size)
  clear mm
  obtain ⟨mF, hmF⟩ : ∃ k, 1 + n + n = k := ⟨_, rfl⟩
  have hmFb : (0 : Int) ≤ (mF : Int) := by omega
  rw [hmF]
  have HMF := hid hmF
  clear hmF
  have hmm0 : ((mF : Int) != (mF : Int)) = false := by simp
  have g0 := (bx5.2 0 _ rfl).1
  have g1 := (bx5.2 1 _ rfl).1
  have g2 := (bx5.2 2 _ rfl).1
  have g3 := (bx5.2 3 _ rfl).1
  go_wp2_with fail
  refine (heldG R C a5 n c5 b5 n d5 1 _ pa5.slv pb5.slv hn hn (by omega)).mono ?_
  rintro e w13 ⟨rfl, b⟩
  rw [HMF.out]
  have oa0 := oa0.below b
  have ob0 := ob0.below b
  have bx0 := bx0.below b
  have pa5 := pa5.below b
  have pb5 := pb5.below b
  have bx5 := bx5.below b
  have bW := below_to bW b
  clear b
  clear g0 g1 g2 g3
  go_wp2_with fail
  refine (toI2 a len cap xs _ (HS.out.below bW) hl).mono ?_
  rintro e w14 ⟨rfl, oy, b, -⟩
  have oa0 := oa0.below b
  have ob0 := ob0.below b
  have bx0 := bx0.below b
  have pa5 := pa5.below b
  have pb5 := pb5.below b
  have bx5 := bx5.below b
  have bW := below_to bW b
  clear b
  go_wp2_with fail
  refine (HBOTH.out _ _ _ oy.slv).2.mono ?_
  rintro e w15 ⟨a8, c8, b8, d8, m8, rfl, oa8, ob8, -, -, b⟩
  have oa0 := oa0.below b
  have ob0 := ob0.below b
  have bx0 := bx0.below b
  have pa5 := pa5.below b
  have pb5 := pb5.below b
  have bx5 := bx5.below b
  have bW := below_to bW b
  clear b oy
  have hal : Below w15.heap.size w15 (w15.alloc (.cells #[.int .i64 R, .int .i64 C, .slice a8 n c8, .slice b8 n d8] 44)) := Below.alloc (Below.refl _ _) (Nat.le_refl _) _
  have bx8 : Box (w15.alloc (.cells #[.int .i64 R, .int .i64 C, .slice a8 n c8, .slice b8 n d8] 44)) w15.heap.size [.int .i64 R, .int .i64 C, .slice a8 n c8, .slice b8 n d8] := Box.new _ _ _
  have oa0 := oa0.below hal
  have ob0 := ob0.below hal
  have bx0 := bx0.below hal
  have pa5 := pa5.below hal
  have pb5 := pb5.below hal
  have bx5 := bx5.below hal
  have oa8 := oa8.below hal
  have ob8 := ob8.below hal
  have bW := below_to bW hal
  clear hal
  have f0 := (bx0.2 0 _ rfl).1
  have f1 := (bx0.2 1 _ rfl).1
  have f2 := (bx0.2 2 _ rfl).1
  have f3 := (bx0.2 3 _ rfl).1
  have h0 := (bx8.2 0 _ rfl).1
  have h1 := (bx8.2 1 _ rfl).1
  have h2 := (bx8.2 2 _ rfl).1
  have h3 := (bx8.2 3 _ rfl).1
  go_wp2_with fail
  refine (eqGSelf R C _ _ n _ _ A _ _ n _ _ B _ oa8.slv oa0.slv hn ob8.slv ob0.slv hn).mono ?_
  rintro e w16 ⟨rfl, b⟩
  clear f0 f1 f2 f3
  clear h0 h1 h2 h3
  have oa0 := oa0.below b
  have ob0 := ob0.below b
  have bx0 := bx0.below b
  have pa5 := pa5.below b
  have pb5 := pb5.below b
  have bx5 := bx5.below b
  have oa8 := oa8.below b
  have ob8 := ob8.below b
  have bx8 := bx8.below b
  have bW := below_to bW b
  clear b
  have g0 := (bx5.2 0 _ rfl).1
  have g1 := (bx5.2 1 _ rfl).1
  have g2 := (bx5.2 2 _ rfl).1
  have g3 := (bx5.2 3 _ rfl).1
  go_wp2_with fail
  refine (heldG R C a5 n c5 b5 n d5 1 _ pa5.slv pb5.slv hn hn (by omega)).mono ?_
  rintro e w17 ⟨rfl, b⟩
  rw [HMF.out]
  have oa0 := oa0.below b
  have ob0 := ob0.below b
  have bx0 := bx0.below b
  have pa5 := pa5.below b
  have pb5 := pb5.below b
  have bx5 := bx5.below b
  have oa8 := oa8.below b
  have ob8 := ob8.below b
  have bx8 := bx8.below b
  have bW := below_to bW b
  clear b
  clear g0 g1 g2 g3
  go_wp2_with fail
  go_ret
  exact ⟨rfl, bW⟩
end TryWalk
end Go.Proofs.Ytlbmmecjiopbbaa
