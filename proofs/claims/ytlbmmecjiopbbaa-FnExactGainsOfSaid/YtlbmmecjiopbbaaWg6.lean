/- Games: a game or player equals its copy; sides, gains. No condition. -/
import Derived.Test.YtlbmmecjiopbbaaWg5
namespace Go.Proofs.Ytlbmmecjiopbbaa
open Go.RowKit Flo Sl
set_option linter.unusedVariables false
namespace TryWalk
set_option maxHeartbeats 1000000 in
theorem eqGSelf (r : Int) (c : Int) (a b : Option Addr) (la : Nat) (ca cc : Nat) (xs : List Int) (a2 b2 : Option Addr) (lb : Nat) (cb cd : Nat) (ys : List Int) (w : World) (h : SlV (Value.int .i64) w a la xs) (h2 : SlV (Value.int .i64) w b la xs) (hla : la ≤ 1048576) (g : SlV (Value.int .i64) w a2 lb ys) (g2 : SlV (Value.int .i64) w b2 lb ys) (hlb : lb ≤ 1048576) : Calls Try.prog 37 #[.agg #[.int .i64 r, .int .i64 c, .slice a la ca, .slice a2 lb cb], .agg #[.int .i64 r, .int .i64 c, .slice b la cc, .slice b2 lb cd]] w (RetD true w) := by
  have bw : Below w.heap.size w ((w.alloc (.cells #[.int .i64 r, .int .i64 c, .slice a la ca, .slice a2 lb cb] 44)).alloc (.cells #[.int .i64 r, .int .i64 c, .slice b la cc, .slice b2 lb cd] 44)) := by repeat (first | exact Below.refl _ _ | refine Below.alloc ?_ (by simp <;> omega) _)
  have pb : Box ((w.alloc (.cells #[.int .i64 r, .int .i64 c, .slice a la ca, .slice a2 lb cb] 44)).alloc (.cells #[.int .i64 r, .int .i64 c, .slice b la cc, .slice b2 lb cd] 44)) w.heap.size [.int .i64 r, .int .i64 c, .slice a la ca, .slice a2 lb cb] := (Box.new _ _ _).al _
  have rb : Box ((w.alloc (.cells #[.int .i64 r, .int .i64 c, .slice a la ca, .slice a2 lb cb] 44)).alloc (.cells #[.int .i64 r, .int .i64 c, .slice b la cc, .slice b2 lb cd] 44)) (w.heap.size + 1) [.int .i64 r, .int .i64 c, .slice b la cc, .slice b2 lb cd] := by
    have := Box.new (w.alloc (.cells #[.int .i64 r, .int .i64 c, .slice a la ca, .slice a2 lb cb] 44)) [.int .i64 r, .int .i64 c, .slice b la cc, .slice b2 lb cd] 44
    simpa using this
  go_enter Try.func37, Try.ntmps37
  go_wp2_with fail
  refine (eqI _ _ _ _ _ _ xs xs _ (h.below bw) (h2.below bw) hla hla).mono ?_
  rintro e w1 ⟨rfl, n, rfl⟩
  rw [decide_eq_true (rfl : xs = xs)]
  go_wp2_with fail
  refine (eqI _ _ _ _ _ _ ys ys _ ((g.below bw).drewN n) ((g2.below bw).drewN n) hlb hlb).mono ?_
  rintro e w2 ⟨rfl, n2, rfl⟩
  rw [decide_eq_true (rfl : ys = ys)]
  go_wp2_with fail
  go_ret
  exact ⟨rfl, below_drewN bw (n + n2)⟩
set_option maxHeartbeats 1000000 in
theorem eqPSelf (a b : Option Addr) (la : Nat) (ca cc : Nat) (xs : List Int) (a2 b2 : Option Addr) (lb : Nat) (cb cd : Nat) (ys : List Int) (w : World) (h : SlV (Value.int .i64) w a la xs) (h2 : SlV (Value.int .i64) w b la xs) (hla : la ≤ 1048576) (g : SlV (Value.int .i64) w a2 lb ys) (g2 : SlV (Value.int .i64) w b2 lb ys) (hlb : lb ≤ 1048576) : Calls Try.prog 32 #[.agg #[.slice a la ca, .slice a2 lb cb], .agg #[.slice b la cc, .slice b2 lb cd]] w (RetD true w) := by
  have bw : Below w.heap.size w ((w.alloc (.cells #[.slice a la ca, .slice a2 lb cb] 36)).alloc (.cells #[.slice b la cc, .slice b2 lb cd] 36)) := by repeat (first | exact Below.refl _ _ | refine Below.alloc ?_ (by simp <;> omega) _)
  have pb : Box ((w.alloc (.cells #[.slice a la ca, .slice a2 lb cb] 36)).alloc (.cells #[.slice b la cc, .slice b2 lb cd] 36)) w.heap.size [.slice a la ca, .slice a2 lb cb] := (Box.new _ _ _).al _
  have rb : Box ((w.alloc (.cells #[.slice a la ca, .slice a2 lb cb] 36)).alloc (.cells #[.slice b la cc, .slice b2 lb cd] 36)) (w.heap.size + 1) [.slice b la cc, .slice b2 lb cd] := by
    have := Box.new (w.alloc (.cells #[.slice a la ca, .slice a2 lb cb] 36)) [.slice b la cc, .slice b2 lb cd] 36
    simpa using this
  go_enter Try.func32, Try.ntmps32
  go_wp2_with fail
  refine (eqI _ _ _ _ _ _ xs xs _ (h.below bw) (h2.below bw) hla hla).mono ?_
  rintro e w1 ⟨rfl, n, rfl⟩
  rw [decide_eq_true (rfl : xs = xs)]
  go_wp2_with fail
  refine (eqI _ _ _ _ _ _ ys ys _ ((g.below bw).drewN n) ((g2.below bw).drewN n) hlb hlb).mono ?_
  rintro e w2 ⟨rfl, n2, rfl⟩
  rw [decide_eq_true (rfl : ys = ys)]
  go_wp2_with fail
  go_ret
  exact ⟨rfl, below_drewN bw (n + n2)⟩
end TryWalk
end Go.Proofs.Ytlbmmecjiopbbaa
