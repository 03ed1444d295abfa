/- Games: the law on equal worths. No condition. -/
import Derived.Test.YtlbmmecjiopbbaaWg3
import Derived.Deep.DeepCutAuto
namespace Go.Proofs.Ytlbmmecjiopbbaa
open Go.RowKit Flo Sl
set_option linter.unusedVariables false
namespace TryWalk
/-- It returns what is left of m when tot is taken, -1 if that is below zero. -/
def SzRet (m tot : Nat) (w : World) (e : Ending) (w' : World) : Prop := ∃ r : Int, e = .returned (.int .i64 r) ∧ Below w.heap.size w w' ∧ ((r = -1 ∧ m < tot) ∨ (r = ((m - tot : Nat) : Int) ∧ tot ≤ m))
theorem szWAny (p : Int) (a : Option Addr) (len cap m : Nat) (w : World) (hm : m ≤ 1048576) (hx : len ≤ maxLen) : Calls Try.prog 21 #[.agg #[.int .i64 p, .slice a len cap], .int .i64 m] w (SzRet m len w) := by
  by_cases h : len ≤ m
  · exact (szW p a len cap m w h hm).mono fun e w' ⟨he, hb⟩ => ⟨_, he, hb, .inr ⟨rfl, h⟩⟩
  · exact (szWNo p a len cap m w (by omega) hm hx).mono fun e w' ⟨he, hb⟩ => ⟨_, he, hb, .inl ⟨rfl, by omega⟩⟩
theorem Box.d1 {w : World} {k : Nat} {vs : List Value} (h : Box w k vs) : Box w.drew k vs := h.below (Below.refl _ _).drew
def RetV (v : Value) (w : World) (e : Ending) (w' : World) : Prop := e = .returned v ∧ Below w.heap.size w w'
theorem eqWSelf (p : Int) (a b : Option Addr) (l ca cb : Nat) (xs : List Int) (w : World) (h : SlV (Value.int .i64) w a l xs) (g : SlV (Value.int .i64) w b l xs) (hl : l ≤ 1048576) : Calls Try.prog 25 #[.agg #[.int .i64 p, .slice a l ca], .agg #[.int .i64 p, .slice b l cb]] w (RetD true w) := by
  have := eqW p p a b l l ca cb xs xs w h g hl hl
  simpa using this
theorem bothSameW (p : Int) (_ : (Lit.int .i64 p).wf = true) (la : Nat) (xs : List Int) (hla : la ≤ 1048576) (_ : ∀ n ∈ xs, (Lit.int .i64 n).wf = true) (q : Int) (_ : (Lit.int .i64 q).wf = true) (lb : Nat) (ys : List Int) (hlb : lb ≤ 1048576) (_ : ∀ n ∈ ys, (Lit.int .i64 n).wf = true) :
    ∃ F : Bool, ∀ (a : Option Addr) (ca : Nat) (b : Option Addr) (cb : Nat) (w : World), SlV (Value.int .i64) w a la xs → SlV (Value.int .i64) w b lb ys →
      Calls Try.prog 22 #[.agg #[.int .i64 p, .slice a la ca], .agg #[.int .i64 q, .slice b lb cb]] w (RetV (.bool F) w) ∧ Calls Try.prog 24 #[.agg #[.int .i64 p, .slice a la ca], .agg #[.int .i64 q, .slice b lb cb]] w (RetV (.bool F) w) :=
  ⟨_, fun a ca b cb w h g => ⟨sameWS p q a b la lb ca cb xs ys w h g hla hlb, sameWP p q a b la lb ca cb xs ys w h g hla hlb⟩⟩
set_option maxHeartbeats 4000000 in
theorem fnExactSameWorths (p00 : Int) (a00 : Option Addr) (l00 c00 : Nat) (x00 : List Int) (p10 : Int) (a10 : Option Addr) (l10 c10 : Nat) (x10 : List Int) (w : World) (hwp00 : (Lit.int .i64 p00).wf = true) (hra00 : IsRow .i64 w a00 l00 c00 x00) (hwp10 : (Lit.int .i64 p10).wf = true) (hra10 : IsRow .i64 w a10 l10 c10 x10) : Calls Try.prog 3 #[.agg #[.int .i64 p00, .slice a00 l00 c00], .agg #[.int .i64 p10, .slice a10 l10 c10]] w (RetD true w) := by
  obtain ⟨hsa00, hva00, hma00⟩ := hra00
  have HSa00 := hid hsa00
  have HVa00 := hid hva00
  clear hsa00 hva00
  obtain ⟨hsa10, hva10, hma10⟩ := hra10
  have HSa10 := hid hsa10
  have HVa10 := hid hva10
  clear hsa10 hva10
  have HWp00 := hid hwp00
  clear hwp00
  have HWp10 := hid hwp10
  clear hwp10
  go_enter Try.func3, Try.ntmps3
  go_wp2_with fail
  refine (szWAny p00 a00 l00 c00 1048576 _ (Nat.le_refl _) hma00).mono ?_
  rintro e w1 ⟨r, rfl, b1, (⟨rfl, h1⟩ | ⟨rfl, h1⟩)⟩
  · have bw1 : Below w.heap.size w w1 := below_to (by repeat (first | exact Below.refl _ _ | with_reducible assumption | refine Below.alloc ?_ (by simp <;> omega) _)) b1
    go_wp2_with fail
    go_ret
    exact ⟨rfl, bw1⟩
  have bw1 : Below w.heap.size w w1 := below_to (by repeat (first | exact Below.refl _ _ | with_reducible assumption | refine Below.alloc ?_ (by simp <;> omega) _)) b1
  have bx0 : Box w1 (w.heap.size) [.int .i64 p00, .slice a00 l00 c00] := ((show Box _ (w.heap.size) _ from by simpa using Box.new w [.int .i64 p00, .slice a00 l00 c00] 24).al _).below b1
  have bx1 : Box w1 (w.heap.size + 1) [.int .i64 p10, .slice a10 l10 c10] := (show Box _ (w.heap.size + 1) _ from by simpa using Box.new (w.alloc (.cells #[.int .i64 p00, .slice a00 l00 c00] 24)) [.int .i64 p10, .slice a10 l10 c10] 24).below b1
  have hla00 : l00 ≤ 1048576 := by omega
  obtain ⟨m1, hm1⟩ : ∃ m, 1048576 - (l00) = m := ⟨_, rfl⟩
  have hmm1 : m1 ≤ 1048576 := by omega
  rw [hm1]
  clear b1 h1 hm1
  have f0 := (bx0.2 0 _ rfl).1
  have f1 := (bx0.2 1 _ rfl).1
  have f2 := (bx1.2 0 _ rfl).1
  have f3 := (bx1.2 1 _ rfl).1
  go_wp2_with fail
  refine (szWAny p10 a10 l10 c10 m1 _ hmm1 hma10).mono ?_
  rintro e w2 ⟨r, rfl, b2, (⟨rfl, h2⟩ | ⟨rfl, h2⟩)⟩
  · have bw2 : Below w.heap.size w w2 := below_to bw1 b2
    go_wp2_with fail
    go_ret
    exact ⟨rfl, bw2⟩
  clear f0 f1 f2 f3
  have bx0 := bx0.below b2
  have bx1 := bx1.below b2
  have bw2 : Below w.heap.size w w2 := below_to bw1 b2
  have hla10 : l10 ≤ 1048576 := by omega
  obtain ⟨m2, hm2⟩ : ∃ m, m1 - (l10) = m := ⟨_, rfl⟩
  have hmm2 : m2 ≤ 1048576 := by omega
  rw [hm2]
  clear b2 h2 hm2
  obtain ⟨F0, hboth⟩ := bothSameW p00 HWp00.out l00 x00 hla00 HVa00.out p10 HWp10.out l10 x10 hla10 HVa10.out
  have HBOTH := hid hboth
  clear hboth
  have hFF0 : (F0 != F0) = false := by simp
  have f0 := (bx0.2 0 _ rfl).1
  have f1 := (bx0.2 1 _ rfl).1
  have f2 := (bx1.2 0 _ rfl).1
  have f3 := (bx1.2 1 _ rfl).1
  go_upto_region 8 with (fail)
  go_cut [6] (fun sv6 wx => sv6 = .bool F0 ∧ Box wx (w.heap.size) [.int .i64 p00, .slice a00 l00 c00] ∧ Box wx (w.heap.size + 1) [.int .i64 p10, .slice a10 l10 c10] ∧ Below w.heap.size w wx)
  case first =>
    go_region_with (first
      | (go_at_call 23
         with_reducible refine (toW p10 a10 l10 c10 x10 _ (HSa10.out.below bq0) hla10).mono ?_
         rintro e wq01 ⟨Aa10, rfl, sq01a10, b⟩
         have bxq01_0 := bxq0_0.below b
         have bxq01_1 := bxq0_1.below b
         have bq01 : Below w.heap.size w wq01 := below_to bq0 b
         have sq01a00 := sq0a00.below b
         have f0 := (bxq01_0.2 0 _ rfl).1
         have f1 := (bxq01_0.2 1 _ rfl).1
         have f2 := (bxq01_1.2 0 _ rfl).1
         have f3 := (bxq01_1.2 1 _ rfl).1)
      | (go_at_call 23
         with_reducible refine (toW p00 a00 l00 c00 x00 _ (HSa00.out.below bq1) hla00).mono ?_
         rintro e wq01 ⟨Aa00, rfl, sq01a00, b⟩
         have bxq01_0 := bxq1_0.below b
         have bxq01_1 := bxq1_1.below b
         have bq01 : Below w.heap.size w wq01 := below_to bq1 b
         have sq01a10 := sq1a10.below b
         have f0 := (bxq01_0.2 0 _ rfl).1
         have f1 := (bxq01_0.2 1 _ rfl).1
         have f2 := (bxq01_1.2 0 _ rfl).1
         have f3 := (bxq01_1.2 1 _ rfl).1)
      | (go_at_call 23
         with_reducible refine (toW p00 a00 l00 c00 x00 _ (HSa00.out.below bw2.drew) hla00).mono ?_
         rintro e wq0 ⟨Aa00, rfl, sq0a00, b⟩
         have bxq0_0 := (Box.d1 bx0).below b
         have bxq0_1 := (Box.d1 bx1).below b
         have bq0 : Below w.heap.size w wq0 := below_to bw2.drew b
         have f0 := (bxq0_0.2 0 _ rfl).1
         have f1 := (bxq0_0.2 1 _ rfl).1
         have f2 := (bxq0_1.2 0 _ rfl).1
         have f3 := (bxq0_1.2 1 _ rfl).1)
      | (go_at_call 23
         with_reducible refine (toW p10 a10 l10 c10 x10 _ (HSa10.out.below bw2.drew) hla10).mono ?_
         rintro e wq1 ⟨Aa10, rfl, sq1a10, b⟩
         have bxq1_0 := (Box.d1 bx0).below b
         have bxq1_1 := (Box.d1 bx1).below b
         have bq1 : Below w.heap.size w wq1 := below_to bw2.drew b
         have f0 := (bxq1_0.2 0 _ rfl).1
         have f1 := (bxq1_0.2 1 _ rfl).1
         have f2 := (bxq1_1.2 0 _ rfl).1
         have f3 := (bxq1_1.2 1 _ rfl).1)
      | (go_at_call 22
         refine (HBOTH.out _ _ _ _ _ sq01a00 sq01a10).1.mono ?_
         rintro e wz ⟨rfl, b⟩
         have bz0 := bxq01_0.below b
         have bz1 := bxq01_1.below b
         have bwz : Below w.heap.size w wz := below_to bq01 b))
    all_goals (go_wp2_with fail; go_meet; exact ⟨rfl, bz0, bz1, bwz⟩)
  case rest =>
    obtain ⟨rfl, bx0, bx1, bc⟩ := hcut
    have f0 := (bx0.2 0 _ rfl).1
    have f1 := (bx0.2 1 _ rfl).1
    have f2 := (bx1.2 0 _ rfl).1
    have f3 := (bx1.2 1 _ rfl).1
    go_wp2_with fail
    refine (toW p00 a00 l00 c00 x00 _ (HSa00.out.below bc) hla00).mono ?_
    rintro e wy0 ⟨Ba00, rfl, ta00, b⟩
    clear f0 f1 f2 f3
    have bx0 := bx0.below b
    have bx1 := bx1.below b
    have by0 : Below w.heap.size w wy0 := below_to bc b
    clear b
    have hal : Below wy0.heap.size wy0 (wy0.alloc (.cells #[.int .i64 p00, .slice Ba00 l00 l00] 27)) := Below.alloc (Below.refl _ _) (Nat.le_refl _) _
    have bx0 := bx0.below hal
    have bx1 := bx1.below hal
    have ex0 : Box (wy0.alloc (.cells #[.int .i64 p00, .slice Ba00 l00 l00] 27)) wy0.heap.size [.int .i64 p00, .slice Ba00 l00 l00] := Box.new _ _ _
    have ta00 := ta00.below hal
    have byl0 : Below w.heap.size w (wy0.alloc (.cells #[.int .i64 p00, .slice Ba00 l00 l00] 27)) := below_to by0 hal
    clear hal
    have f0 := (bx0.2 0 _ rfl).1
    have f1 := (bx0.2 1 _ rfl).1
    have f2 := (bx1.2 0 _ rfl).1
    have f3 := (bx1.2 1 _ rfl).1
    go_wp2_with fail
    refine (toW p10 a10 l10 c10 x10 _ (HSa10.out.below byl0) hla10).mono ?_
    rintro e wy1 ⟨Ba10, rfl, ta10, b⟩
    clear f0 f1 f2 f3
    have bx0 := bx0.below b
    have bx1 := bx1.below b
    have ex0 := ex0.below b
    have ta00 := ta00.below b
    have by1 : Below w.heap.size w wy1 := below_to byl0 b
    clear b
    have hal : Below wy1.heap.size wy1 (wy1.alloc (.cells #[.int .i64 p10, .slice Ba10 l10 l10] 27)) := Below.alloc (Below.refl _ _) (Nat.le_refl _) _
    have bx0 := bx0.below hal
    have bx1 := bx1.below hal
    have ex0 := ex0.below hal
    have ex1 : Box (wy1.alloc (.cells #[.int .i64 p10, .slice Ba10 l10 l10] 27)) wy1.heap.size [.int .i64 p10, .slice Ba10 l10 l10] := Box.new _ _ _
    have ta00 := ta00.below hal
    have ta10 := ta10.below hal
    have byl1 : Below w.heap.size w (wy1.alloc (.cells #[.int .i64 p10, .slice Ba10 l10 l10] 27)) := below_to by1 hal
    clear hal
    have g0 := (ex0.2 0 _ rfl).1
    have g1 := (ex0.2 1 _ rfl).1
    have g2 := (ex1.2 0 _ rfl).1
    have g3 := (ex1.2 1 _ rfl).1
    go_wp2_with fail
    refine (HBOTH.out _ _ _ _ _ ta00 ta10).2.mono ?_
    rintro e wi ⟨rfl, b⟩
    clear g0 g1 g2 g3
    have bx0 := bx0.below b
    have ex0 := ex0.below b
    have bx1 := bx1.below b
    have ex1 := ex1.below b
    have ta00 := ta00.below b
    have ta10 := ta10.below b
    have bi : Below w.heap.size w wi := below_to byl1 b
    clear b
    have f0 := (bx0.2 0 _ rfl).1
    have f1 := (bx0.2 1 _ rfl).1
    have f2 := (bx1.2 0 _ rfl).1
    have f3 := (bx1.2 1 _ rfl).1
    have g0 := (ex0.2 0 _ rfl).1
    have g1 := (ex0.2 1 _ rfl).1
    have g2 := (ex1.2 0 _ rfl).1
    have g3 := (ex1.2 1 _ rfl).1
    go_upto_region 14 with (fail)
    go_cut [39] (fun sv wx => sv = .bool false ∧ Box wx (w.heap.size) [.int .i64 p00, .slice a00 l00 c00] ∧ Box wx (w.heap.size + 1) [.int .i64 p10, .slice a10 l10 c10] ∧ Box wx wy1.heap.size [.int .i64 p10, .slice Ba10 l10 l10] ∧ SlV (Value.int .i64) wx Ba10 l10 x10 ∧ Below w.heap.size w wx)
    case first =>
      go_region_with (first
        | (go_at_call 23
           refine (toW p00 a00 l00 c00 x00 _ (HSa00.out.below bi.drew) hla00).mono ?_
           rintro e we ⟨Ea00, rfl, ua00, b⟩
           have bx0 := (Box.d1 bx0).below b
           have bx1 := (Box.d1 bx1).below b
           have ex0 := (Box.d1 ex0).below b
           have ex1 := (Box.d1 ex1).below b
           have ta00 := (ta00.below (Below.refl _ _).drew).below b
           have ta10 := (ta10.below (Below.refl _ _).drew).below b
           have be : Below w.heap.size w we := below_to bi.drew b
           have f0 := (bx0.2 0 _ rfl).1
           have f1 := (bx0.2 1 _ rfl).1
           have f2 := (bx1.2 0 _ rfl).1
           have f3 := (bx1.2 1 _ rfl).1
           have g0 := (ex0.2 0 _ rfl).1
           have g1 := (ex0.2 1 _ rfl).1
           have g2 := (ex1.2 0 _ rfl).1
           have g3 := (ex1.2 1 _ rfl).1)
        | (go_at_call 25
           refine (eqWSelf p00 _ _ l00 _ _ x00 _ ta00 ua00 hla00).mono ?_
           rintro e wf ⟨rfl, b⟩
           have bx0 := bx0.below b
           have bx1 := bx1.below b
           have ex1 := ex1.below b
           have ta10 := ta10.below b
           have bf : Below w.heap.size w wf := below_to be b))
      all_goals (go_wp2_with fail; go_meet; exact ⟨rfl, bx0, bx1, ex1, ta10, bf⟩)
    case rest =>
    clear f0 f1 f2 f3
    clear g0 g1 g2 g3
    clear bx0 bx1 ex0 ex1 ta00 ta10
    obtain ⟨rfl, bx0, bx1, ex1, ta10, bk0⟩ := hcut
    have f0 := (bx0.2 0 _ rfl).1
    have f1 := (bx0.2 1 _ rfl).1
    have f2 := (bx1.2 0 _ rfl).1
    have f3 := (bx1.2 1 _ rfl).1
    have g0 := True.intro
    have g1 := True.intro
    have g2 := (ex1.2 0 _ rfl).1
    have g3 := (ex1.2 1 _ rfl).1
    go_upto_region 16 with (fail)
    go_cut [44] (fun sv wx => sv = .bool false ∧ Box wx (w.heap.size) [.int .i64 p00, .slice a00 l00 c00] ∧ Box wx (w.heap.size + 1) [.int .i64 p10, .slice a10 l10 c10] ∧ Below w.heap.size w wx)
    case first =>
      go_region_with (first
        | (go_at_call 23
           refine (toW p10 a10 l10 c10 x10 _ (HSa10.out.below bk0.drew) hla10).mono ?_
           rintro e we ⟨Ea10, rfl, ua10, b⟩
           have bx0 := (Box.d1 bx0).below b
           have bx1 := (Box.d1 bx1).below b
           have ex1 := (Box.d1 ex1).below b
           have ta10 := (ta10.below (Below.refl _ _).drew).below b
           have be : Below w.heap.size w we := below_to bk0.drew b
           have f0 := (bx0.2 0 _ rfl).1
           have f1 := (bx0.2 1 _ rfl).1
           have f2 := (bx1.2 0 _ rfl).1
           have f3 := (bx1.2 1 _ rfl).1
           have g2 := (ex1.2 0 _ rfl).1
           have g3 := (ex1.2 1 _ rfl).1)
        | (go_at_call 25
           refine (eqWSelf p10 _ _ l10 _ _ x10 _ ta10 ua10 hla10).mono ?_
           rintro e wf ⟨rfl, b⟩
           have bx0 := bx0.below b
           have bx1 := bx1.below b
           have bf : Below w.heap.size w wf := below_to be b))
      all_goals (go_wp2_with fail; go_meet; exact ⟨rfl, bx0, bx1, bf⟩)
    case rest =>
    clear f0 f1 f2 f3
    clear g0 g1 g2 g3
    clear bx0 bx1 ex1 ta10
    obtain ⟨rfl, bx0, bx1, bk1⟩ := hcut
    go_wp2_with fail
    go_ret
    exact ⟨rfl, bk1⟩
end TryWalk
end Go.Proofs.Ytlbmmecjiopbbaa
