/- Games: copies, equality and sizes of games and players. No condition. -/
import Derived.Test.YtlbmmecjiopbbaaWg4
namespace Go.Proofs.Ytlbmmecjiopbbaa
open Go.RowKit Flo Sl
set_option linter.unusedVariables false
namespace TryWalk
theorem sizeSet (w : World) (p : Addr) (v : Value) : (w.setCell p v).heap.size = w.heap.size := by simp [World.setCell]
theorem Box.set {w : World} {k : Nat} {vs : List Value} (h : Box w k vs) (i : Nat) (v : Value) : Box (w.setCell ⟨k, i, none⟩ v) k (vs.set i v) := by
  refine ⟨by simpa [World.setCell] using h.1, fun j x hx => ?_⟩
  by_cases e : i = j
  · subst e
    have hl : i < vs.length := by
      have := (List.getElem?_eq_some_iff.mp hx).1
      simpa using this
    have hc := h.2 i _ (List.getElem?_eq_getElem hl)
    rw [List.getElem?_set_self hl] at hx
    injection hx with hx; subst hx
    exact ⟨by rw [World.cell?_setCell_same _ _ _ hc.1], by simp [hc.2]⟩
  · rw [List.getElem?_set_ne e] at hx
    have hc := h.2 j _ hx
    have e2 : (⟨k, i, none⟩ : Addr) ≠ ⟨k, j, none⟩ := by
      intro h; injection h with h1 h2; exact e h2
    exact ⟨by rw [World.cell?_setCell_other _ _ _ _ e2, hc.1], by simp [hc.2]⟩
theorem Box.off {w : World} {k : Nat} {vs : List Value} (h : Box w k vs) (p : Addr) (v : Value) (hp : k ≠ p.block) : Box (w.setCell p v) k vs := by
  refine ⟨by simpa [World.setCell] using h.1, fun j x hx => ?_⟩
  have hc := h.2 j _ hx
  have e2 : p ≠ (⟨k, j, none⟩ : Addr) := by
    intro h; subst h; exact hp rfl
  exact ⟨by rw [World.cell?_setCell_other _ _ _ _ e2, hc.1], by simp [hc.2]⟩
theorem szGAny (r : Int) (c : Int) (a : Option Addr) (la ca : Nat) (b : Option Addr) (lb cb m : Nat) (w : World) (hm : m ≤ 1048576) (hxa : la ≤ maxLen) (hxb : lb ≤ maxLen) : Calls Try.prog 33 #[.agg #[.int .i64 r, .int .i64 c, .slice a la ca, .slice b lb cb], .int .i64 m] w (SzRet m (la + lb) w) := by
  by_cases h : la ≤ m
  · obtain ⟨n, hn⟩ : ∃ n, m - la = n := ⟨_, rfl⟩
    have hn2 : n ≤ 1048576 := by omega
    by_cases h2 : lb ≤ n
    · obtain ⟨n3, hn3⟩ : ∃ n3, n - lb = n3 := ⟨_, rfl⟩
      have hn4 : n3 ≤ 1048576 := by omega
      go_enter Try.func33, Try.ntmps33
      go_wp2_with fail
      refine (szI a la ca m _ h hm).mono ?_
      rintro e w' ⟨rfl, rfl⟩
      rw [hn]
      go_wp2_with fail
      refine (szI b lb cb n _ h2 hn2).mono ?_
      rintro e w' ⟨rfl, rfl⟩
      rw [hn3]
      go_wp2_with fail
      go_ret
      exact ⟨_, rfl, (Below.refl _ _).alloc (Nat.le_refl _) _, .inr ⟨by omega, by omega⟩⟩
    · go_enter Try.func33, Try.ntmps33
      go_wp2_with fail
      refine (szI a la ca m _ h hm).mono ?_
      rintro e w' ⟨rfl, rfl⟩
      rw [hn]
      go_wp2_with fail
      refine (szINo b lb cb n _ (by omega) hn2 hxb).mono ?_
      rintro e w' ⟨rfl, rfl⟩
      go_wp2_with fail
      go_ret
      exact ⟨_, rfl, (Below.refl _ _).alloc (Nat.le_refl _) _, .inl ⟨rfl, by omega⟩⟩
  · go_enter Try.func33, Try.ntmps33
    go_wp2_with fail
    refine (szINo a la ca m _ (by omega) hm hxa).mono ?_
    rintro e w' ⟨rfl, rfl⟩
    go_wp2_with fail
    go_ret
    exact ⟨_, rfl, (Below.refl _ _).alloc (Nat.le_refl _) _, .inl ⟨rfl, by omega⟩⟩
def RetG (r : Int) (c : Int) (la : Nat) (xs : List Int) (lb : Nat) (ys : List Int) (w : World) (e : Ending) (w' : World) : Prop := ∃ a b, e = .returned (.agg #[.int .i64 r, .int .i64 c, .slice a la la, .slice b lb lb]) ∧ SlV (Value.int .i64) w' a la xs ∧ SlV (Value.int .i64) w' b lb ys ∧ Below w.heap.size w w'
set_option maxHeartbeats 2000000 in
theorem toG (r : Int) (c : Int) (a : Option Addr) (la ca : Nat) (xs : List Int) (b : Option Addr) (lb cb : Nat) (ys : List Int) (w : World) (h : SlV (Value.int .i64) w a la xs) (g : SlV (Value.int .i64) w b lb ys) (hla : la ≤ 1048576) (hlb : lb ≤ 1048576) : Calls Try.prog 35 #[.agg #[.int .i64 r, .int .i64 c, .slice a la ca, .slice b lb cb]] w (RetG r c la xs lb ys w) := by
  have hz : (((w.alloc (.cells #[.int .i64 r, .int .i64 c, .slice a la ca, .slice b lb cb] 41)).alloc (.cells #[.int .i64 0, .int .i64 0, .slice none 0 0, .slice none 0 0] 44)).alloc (.cells #[.int .i64 r, .int .i64 c, .slice none 0 0, .slice none 0 0] 44)).heap.size = w.heap.size + 1 + 1 + 1 := size3 _ _ _ _
  have bw : Below w.heap.size w (((w.alloc (.cells #[.int .i64 r, .int .i64 c, .slice a la ca, .slice b lb cb] 41)).alloc (.cells #[.int .i64 0, .int .i64 0, .slice none 0 0, .slice none 0 0] 44)).alloc (.cells #[.int .i64 r, .int .i64 c, .slice none 0 0, .slice none 0 0] 44)) := by repeat (first | exact Below.refl _ _ | refine Below.alloc ?_ (by simp <;> omega) _)
  have pb : Box (((w.alloc (.cells #[.int .i64 r, .int .i64 c, .slice a la ca, .slice b lb cb] 41)).alloc (.cells #[.int .i64 0, .int .i64 0, .slice none 0 0, .slice none 0 0] 44)).alloc (.cells #[.int .i64 r, .int .i64 c, .slice none 0 0, .slice none 0 0] 44)) w.heap.size [.int .i64 r, .int .i64 c, .slice a la ca, .slice b lb cb] := ((Box.new _ _ _).al _).al _
  have rb : Box (((w.alloc (.cells #[.int .i64 r, .int .i64 c, .slice a la ca, .slice b lb cb] 41)).alloc (.cells #[.int .i64 0, .int .i64 0, .slice none 0 0, .slice none 0 0] 44)).alloc (.cells #[.int .i64 r, .int .i64 c, .slice none 0 0, .slice none 0 0] 44)) (w.heap.size + 1) [.int .i64 0, .int .i64 0, .slice none 0 0, .slice none 0 0] := by
    have := (Box.new (w.alloc (.cells #[.int .i64 r, .int .i64 c, .slice a la ca, .slice b lb cb] 41)) [.int .i64 0, .int .i64 0, .slice none 0 0, .slice none 0 0] 44).al (.cells #[.int .i64 r, .int .i64 c, .slice none 0 0, .slice none 0 0] 44)
    simpa using this
  have ob : Box (((w.alloc (.cells #[.int .i64 r, .int .i64 c, .slice a la ca, .slice b lb cb] 41)).alloc (.cells #[.int .i64 0, .int .i64 0, .slice none 0 0, .slice none 0 0] 44)).alloc (.cells #[.int .i64 r, .int .i64 c, .slice none 0 0, .slice none 0 0] 44)) (w.heap.size + 1 + 1) [.int .i64 r, .int .i64 c, .slice none 0 0, .slice none 0 0] := by
    have := Box.new ((w.alloc (.cells #[.int .i64 r, .int .i64 c, .slice a la ca, .slice b lb cb] 41)).alloc (.cells #[.int .i64 0, .int .i64 0, .slice none 0 0, .slice none 0 0] 44)) [.int .i64 r, .int .i64 c, .slice none 0 0, .slice none 0 0] 44
    simpa using this
  go_enter Try.func35, Try.ntmps35
  go_wp2_with fail
  refine (toI a la ca xs _ (h.below bw) hla).mono ?_
  rintro e w1 ⟨rfl, s1, b1, -⟩
  simp only [size3] at s1
  have pb := pb.below b1
  have rb := rb.below b1
  have ob := ob.below b1
  have bw := below_to bw b1
  have hz1 : w.heap.size + 1 + 1 + 1 ≤ w1.heap.size := by have := b1.size; omega
  clear b1 hz
  have c0 := (pb.2 0 _ rfl).1
  have c1 := (pb.2 1 _ rfl).1
  have c2 := (pb.2 2 _ rfl).1
  have c3 := (pb.2 3 _ rfl).1
  have d0 := (ob.2 0 _ rfl).1
  have d1 := (ob.2 1 _ rfl).1
  have d2 := (ob.2 2 _ rfl).1
  have d3 := (ob.2 3 _ rfl).1
  have e0 := (ob.2 0 _ rfl).2
  have e1 := (ob.2 1 _ rfl).2
  have e2 := (ob.2 2 _ rfl).2
  have e3 := (ob.2 3 _ rfl).2
  go_wp2_with fail
  have s1 := slOff s1 ⟨w.heap.size + 1 + 1, 2, none⟩ (.slice (some ⟨w.heap.size + 1 + 1 + 1, 0, none⟩) la la) (by simp)
  have pb := pb.off ⟨w.heap.size + 1 + 1, 2, none⟩ (.slice (some ⟨w.heap.size + 1 + 1 + 1, 0, none⟩) la la) (by simp; omega)
  have rb := rb.off ⟨w.heap.size + 1 + 1, 2, none⟩ (.slice (some ⟨w.heap.size + 1 + 1 + 1, 0, none⟩) la la) (by simp)
  have ob := ob.set 2 (.slice (some ⟨w.heap.size + 1 + 1 + 1, 0, none⟩) la la)
  have bw : Below w.heap.size w (w1.setCell ⟨w.heap.size + 1 + 1, 2, none⟩ (.slice (some ⟨w.heap.size + 1 + 1 + 1, 0, none⟩) la la)) := bw.setCell (by simp; omega) _
  refine (toI b lb cb ys _ (g.below bw) hlb).mono ?_
  rintro e w2 ⟨rfl, s2, b2, -⟩
  have s1 := s1.below b2
  have pb := pb.below b2
  have rb := rb.below b2
  have ob := ob.below b2
  have bw := below_to bw b2
  clear b2
  simp only [sizeSet] at s2
  clear c0 d0 e0 c1 d1 e1 c2 d2 e2 c3 d3 e3
  have c0 := (pb.2 0 _ rfl).1
  have c1 := (pb.2 1 _ rfl).1
  have c2 := (pb.2 2 _ rfl).1
  have c3 := (pb.2 3 _ rfl).1
  have d0 := (ob.2 0 _ rfl).1
  have d1 := (ob.2 1 _ rfl).1
  have d2 := (ob.2 2 _ rfl).1
  have d3 := (ob.2 3 _ rfl).1
  have e0 := (ob.2 0 _ rfl).2
  have e1 := (ob.2 1 _ rfl).2
  have e2 := (ob.2 2 _ rfl).2
  have e3 := (ob.2 3 _ rfl).2
  have f0 := (rb.2 0 _ rfl).1
  have f1 := (rb.2 1 _ rfl).1
  have f2 := (rb.2 2 _ rfl).1
  have f3 := (rb.2 3 _ rfl).1
  have g0 := (rb.2 0 _ rfl).2
  have g1 := (rb.2 1 _ rfl).2
  have g2 := (rb.2 2 _ rfl).2
  have g3 := (rb.2 3 _ rfl).2
  go_wp2_with fail
  refine bodyPost_ret (v := .agg #[.int .i64 r, .int .i64 c, .slice (some ⟨w.heap.size + 1 + 1 + 1, 0, none⟩) la la, .slice (some ⟨w1.heap.size, 0, none⟩) lb lb]) (by simp [results, Try.results35, go_sem, f0, f1, f2, f3]) rfl ⟨_, _, rfl, ?_, ?_, ?_⟩
  · repeat (first | exact s1 | refine slOff ?_ _ _ (by simp <;> omega))
  · repeat (first | exact s2 | refine slOff ?_ _ _ (by simp <;> omega))
  · repeat (first | exact bw | refine Below.setCell ?_ (by simp <;> omega) _)
theorem szPAny (a : Option Addr) (la ca : Nat) (b : Option Addr) (lb cb m : Nat) (w : World) (hm : m ≤ 1048576) (hxa : la ≤ maxLen) (hxb : lb ≤ maxLen) : Calls Try.prog 28 #[.agg #[.slice a la ca, .slice b lb cb], .int .i64 m] w (SzRet m (la + lb) w) := by
  by_cases h : la ≤ m
  · obtain ⟨n, hn⟩ : ∃ n, m - la = n := ⟨_, rfl⟩
    have hn2 : n ≤ 1048576 := by omega
    by_cases h2 : lb ≤ n
    · obtain ⟨n3, hn3⟩ : ∃ n3, n - lb = n3 := ⟨_, rfl⟩
      have hn4 : n3 ≤ 1048576 := by omega
      go_enter Try.func28, Try.ntmps28
      go_wp2_with fail
      refine (szI a la ca m _ h hm).mono ?_
      rintro e w' ⟨rfl, rfl⟩
      rw [hn]
      go_wp2_with fail
      refine (szI b lb cb n _ h2 hn2).mono ?_
      rintro e w' ⟨rfl, rfl⟩
      rw [hn3]
      go_wp2_with fail
      go_ret
      exact ⟨_, rfl, (Below.refl _ _).alloc (Nat.le_refl _) _, .inr ⟨by omega, by omega⟩⟩
    · go_enter Try.func28, Try.ntmps28
      go_wp2_with fail
      refine (szI a la ca m _ h hm).mono ?_
      rintro e w' ⟨rfl, rfl⟩
      rw [hn]
      go_wp2_with fail
      refine (szINo b lb cb n _ (by omega) hn2 hxb).mono ?_
      rintro e w' ⟨rfl, rfl⟩
      go_wp2_with fail
      go_ret
      exact ⟨_, rfl, (Below.refl _ _).alloc (Nat.le_refl _) _, .inl ⟨rfl, by omega⟩⟩
  · go_enter Try.func28, Try.ntmps28
    go_wp2_with fail
    refine (szINo a la ca m _ (by omega) hm hxa).mono ?_
    rintro e w' ⟨rfl, rfl⟩
    go_wp2_with fail
    go_ret
    exact ⟨_, rfl, (Below.refl _ _).alloc (Nat.le_refl _) _, .inl ⟨rfl, by omega⟩⟩
def RetP (la : Nat) (xs : List Int) (lb : Nat) (ys : List Int) (w : World) (e : Ending) (w' : World) : Prop := ∃ a b, e = .returned (.agg #[.slice a la la, .slice b lb lb]) ∧ SlV (Value.int .i64) w' a la xs ∧ SlV (Value.int .i64) w' b lb ys ∧ Below w.heap.size w w'
set_option maxHeartbeats 2000000 in
theorem toP (a : Option Addr) (la ca : Nat) (xs : List Int) (b : Option Addr) (lb cb : Nat) (ys : List Int) (w : World) (h : SlV (Value.int .i64) w a la xs) (g : SlV (Value.int .i64) w b lb ys) (hla : la ≤ 1048576) (hlb : lb ≤ 1048576) : Calls Try.prog 30 #[.agg #[.slice a la ca, .slice b lb cb]] w (RetP  la xs lb ys w) := by
  have hz : (((w.alloc (.cells #[.slice a la ca, .slice b lb cb] 33)).alloc (.cells #[.slice none 0 0, .slice none 0 0] 36)).alloc (.cells #[.slice none 0 0, .slice none 0 0] 36)).heap.size = w.heap.size + 1 + 1 + 1 := size3 _ _ _ _
  have bw : Below w.heap.size w (((w.alloc (.cells #[.slice a la ca, .slice b lb cb] 33)).alloc (.cells #[.slice none 0 0, .slice none 0 0] 36)).alloc (.cells #[.slice none 0 0, .slice none 0 0] 36)) := by repeat (first | exact Below.refl _ _ | refine Below.alloc ?_ (by simp <;> omega) _)
  have pb : Box (((w.alloc (.cells #[.slice a la ca, .slice b lb cb] 33)).alloc (.cells #[.slice none 0 0, .slice none 0 0] 36)).alloc (.cells #[.slice none 0 0, .slice none 0 0] 36)) w.heap.size [.slice a la ca, .slice b lb cb] := ((Box.new _ _ _).al _).al _
  have rb : Box (((w.alloc (.cells #[.slice a la ca, .slice b lb cb] 33)).alloc (.cells #[.slice none 0 0, .slice none 0 0] 36)).alloc (.cells #[.slice none 0 0, .slice none 0 0] 36)) (w.heap.size + 1) [.slice none 0 0, .slice none 0 0] := by
    have := (Box.new (w.alloc (.cells #[.slice a la ca, .slice b lb cb] 33)) [.slice none 0 0, .slice none 0 0] 36).al (.cells #[.slice none 0 0, .slice none 0 0] 36)
    simpa using this
  have ob : Box (((w.alloc (.cells #[.slice a la ca, .slice b lb cb] 33)).alloc (.cells #[.slice none 0 0, .slice none 0 0] 36)).alloc (.cells #[.slice none 0 0, .slice none 0 0] 36)) (w.heap.size + 1 + 1) [.slice none 0 0, .slice none 0 0] := by
    have := Box.new ((w.alloc (.cells #[.slice a la ca, .slice b lb cb] 33)).alloc (.cells #[.slice none 0 0, .slice none 0 0] 36)) [.slice none 0 0, .slice none 0 0] 36
    simpa using this
  go_enter Try.func30, Try.ntmps30
  go_wp2_with fail
  refine (toI a la ca xs _ (h.below bw) hla).mono ?_
  rintro e w1 ⟨rfl, s1, b1, -⟩
  simp only [size3] at s1
  have pb := pb.below b1
  have rb := rb.below b1
  have ob := ob.below b1
  have bw := below_to bw b1
  have hz1 : w.heap.size + 1 + 1 + 1 ≤ w1.heap.size := by have := b1.size; omega
  clear b1 hz
  have c0 := (pb.2 0 _ rfl).1
  have c1 := (pb.2 1 _ rfl).1
  have d0 := (ob.2 0 _ rfl).1
  have d1 := (ob.2 1 _ rfl).1
  have e0 := (ob.2 0 _ rfl).2
  have e1 := (ob.2 1 _ rfl).2
  go_wp2_with fail
  have s1 := slOff s1 ⟨w.heap.size + 1 + 1, 0, none⟩ (.slice (some ⟨w.heap.size + 1 + 1 + 1, 0, none⟩) la la) (by simp)
  have pb := pb.off ⟨w.heap.size + 1 + 1, 0, none⟩ (.slice (some ⟨w.heap.size + 1 + 1 + 1, 0, none⟩) la la) (by simp; omega)
  have rb := rb.off ⟨w.heap.size + 1 + 1, 0, none⟩ (.slice (some ⟨w.heap.size + 1 + 1 + 1, 0, none⟩) la la) (by simp)
  have ob := ob.set 0 (.slice (some ⟨w.heap.size + 1 + 1 + 1, 0, none⟩) la la)
  have bw : Below w.heap.size w (w1.setCell ⟨w.heap.size + 1 + 1, 0, none⟩ (.slice (some ⟨w.heap.size + 1 + 1 + 1, 0, none⟩) la la)) := bw.setCell (by simp; omega) _
  refine (toI b lb cb ys _ (g.below bw) hlb).mono ?_
  rintro e w2 ⟨rfl, s2, b2, -⟩
  have s1 := s1.below b2
  have pb := pb.below b2
  have rb := rb.below b2
  have ob := ob.below b2
  have bw := below_to bw b2
  clear b2
  simp only [sizeSet] at s2
  clear c0 d0 e0 c1 d1 e1
  have c0 := (pb.2 0 _ rfl).1
  have c1 := (pb.2 1 _ rfl).1
  have d0 := (ob.2 0 _ rfl).1
  have d1 := (ob.2 1 _ rfl).1
  have e0 := (ob.2 0 _ rfl).2
  have e1 := (ob.2 1 _ rfl).2
  have f0 := (rb.2 0 _ rfl).1
  have f1 := (rb.2 1 _ rfl).1
  have g0 := (rb.2 0 _ rfl).2
  have g1 := (rb.2 1 _ rfl).2
  go_wp2_with fail
  refine bodyPost_ret (v := .agg #[.slice (some ⟨w.heap.size + 1 + 1 + 1, 0, none⟩) la la, .slice (some ⟨w1.heap.size, 0, none⟩) lb lb]) (by simp [results, Try.results30, go_sem, f0, f1]) rfl ⟨_, _, rfl, ?_, ?_, ?_⟩
  · repeat (first | exact s1 | refine slOff ?_ _ _ (by simp <;> omega))
  · repeat (first | exact s2 | refine slOff ?_ _ _ (by simp <;> omega))
  · repeat (first | exact bw | refine Below.setCell ?_ (by simp <;> omega) _)
end TryWalk
end Go.Proofs.Ytlbmmecjiopbbaa
