/- Games: copies that may be written; marks. No condition. -/
import Derived.Test.YtlbmmecjiopbbaaWh0
namespace Go.Proofs.Ytlbmmecjiopbbaa
open Go.RowKit Flo Sl
set_option linter.unusedVariables false
namespace TryWalk
theorem OwB.off {lo hi : Nat} {w : World} {a : Option Addr} {len : Nat} {xs : List Int} (h : OwB lo hi w a len xs) (p : Addr) (v : Value) (hp : p.block < lo ∨ hi ≤ p.block) : OwB lo hi (w.setCell p v) a len xs := by
  refine ⟨h.1, fun h0 => ?_⟩
  obtain ⟨b, ha, g1, g2, g3, hc⟩ := h.2 h0
  refine ⟨b, ha, g1, g2, by simpa [World.setCell] using g3, fun i hi2 => ?_⟩
  have := cell_at (p := ⟨b, i, none⟩) (Below.heap_setCell w p v b (by omega))
  rw [this.1, this.2]
  exact hc i hi2
def RetI2 (len : Nat) (xs : List Int) (w : World) (e : Ending) (w' : World) : Prop := e = .returned (.slice (some ⟨w.heap.size, 0, none⟩) len len) ∧ OwB w.heap.size (w.heap.size + 1) w' (some ⟨w.heap.size, 0, none⟩) len xs ∧ Below w.heap.size w w' ∧ w.heap.size < w'.heap.size
set_option maxHeartbeats 400000 in
theorem toI2 (a : Option Addr) (len cap : Nat) (xs : List Int) (w : World) (h : SlV (Value.int .i64) w a len xs) (hl : len ≤ 1048576) : Calls Try.prog 43 #[.slice a len cap] w (RetI2 len xs w) := by
  have hmk := mkI len hl
  have H := hid h
  clear h
  go_enter Try.func43, Try.ntmps43
  go_wp2
  have hst := hid (Cp.start (f := Value.int .i64) w len (.int .i64 0) 2 xs)
  go_loopw [4] (fun i wr => ∃ k : Nat, k ≤ len ∧ i = .int .i64 k ∧ Cp (Value.int .i64) w len (.int .i64 0) xs k wr) (fun i _ => len - (intOf i).toNat)
  case atStart => exact ⟨0, Nat.zero_le _, rfl, hst.out⟩
  case round =>
    obtain ⟨k, hk, rfl, hcp⟩ := hrel
    have HC := hid hcp
    by_cases hlt : k < len
    · obtain ⟨b, off, rfl, hb, hc⟩ := H.out.2 (by omega)
      have hc1 : wr.cell? ⟨b, off + k, none⟩ = some (.int .i64 (xs.getD k 0)) := by
        rw [hcp.below.cell (p := ⟨b, off + k, none⟩) hb]; exact hc k hlt
      have hc2 : wr.cell? ⟨w.heap.size, k, none⟩ = some (.int .i64 0) := by rw [hcp.cell k hlt, if_neg (by omega)]
      have hf2 := hcp.free k
      clear hcp hc
      go_wp2
      go_roundw
      case rel => exact ⟨k + 1, by omega, by go_num, by have := HC.out.step hlt; simpa using this⟩
      case measure => simp [intOf]; omega
    · obtain rfl : k = len := by omega
      clear hcp
      go_wp2
      go_ret
      refine ⟨rfl, ⟨H.out.1, fun h0 => ⟨w.heap.size, rfl, Nat.le_refl _, Nat.lt_succ_self _, by rw [HC.out.size]; omega, fun i hi => ⟨?_, HC.out.free i⟩⟩⟩, HC.out.below, by rw [HC.out.size]; omega⟩
      have := HC.out.cell i hi
      rw [if_pos hi] at this
      exact this
def RetGo (r : Int) (c : Int) (la : Nat) (xs : List Int) (lb : Nat) (ys : List Int) (w : World) (e : Ending) (w' : World) : Prop := ∃ a b m, e = .returned (.agg #[.int .i64 r, .int .i64 c, .slice a la la, .slice b lb lb]) ∧ OwB w.heap.size m w' a la xs ∧ OwB m w'.heap.size w' b lb ys ∧ w.heap.size ≤ m ∧ m ≤ w'.heap.size ∧ Below w.heap.size w w'
set_option maxHeartbeats 2000000 in
theorem toGo (r : Int) (c : Int) (a : Option Addr) (la ca : Nat) (xs : List Int) (b : Option Addr) (lb cb : Nat) (ys : List Int) (w : World) (h : SlV (Value.int .i64) w a la xs) (g : SlV (Value.int .i64) w b lb ys) (hla : la ≤ 1048576) (hlb : lb ≤ 1048576) : Calls Try.prog 35 #[.agg #[.int .i64 r, .int .i64 c, .slice a la ca, .slice b lb cb]] w (RetGo r c la xs lb ys w) := by
  have hz : (((w.alloc (.cells #[.int .i64 r, .int .i64 c, .slice a la ca, .slice b lb cb] 41)).alloc (.cells #[.int .i64 0, .int .i64 0, .slice none 0 0, .slice none 0 0] 44)).alloc (.cells #[.int .i64 r, .int .i64 c, .slice none 0 0, .slice none 0 0] 44)).heap.size = w.heap.size + 1 + 1 + 1 := size3 _ _ _ _
  have bw : Below w.heap.size w (((w.alloc (.cells #[.int .i64 r, .int .i64 c, .slice a la ca, .slice b lb cb] 41)).alloc (.cells #[.int .i64 0, .int .i64 0, .slice none 0 0, .slice none 0 0] 44)).alloc (.cells #[.int .i64 r, .int .i64 c, .slice none 0 0, .slice none 0 0] 44)) := by repeat (first | exact Below.refl _ _ | refine Below.alloc ?_ (by simp <;> omega) _)
  have pb : Box (((w.alloc (.cells #[.int .i64 r, .int .i64 c, .slice a la ca, .slice b lb cb] 41)).alloc (.cells #[.int .i64 0, .int .i64 0, .slice none 0 0, .slice none 0 0] 44)).alloc (.cells #[.int .i64 r, .int .i64 c, .slice none 0 0, .slice none 0 0] 44)) w.heap.size [.int .i64 r, .int .i64 c, .slice a la ca, .slice b lb cb] := ((Box.new _ _ _).al _).al _
  have rb : Box (((w.alloc (.cells #[.int .i64 r, .int .i64 c, .slice a la ca, .slice b lb cb] 41)).alloc (.cells #[.int .i64 0, .int .i64 0, .slice none 0 0, .slice none 0 0] 44)).alloc (.cells #[.int .i64 r, .int .i64 c, .slice none 0 0, .slice none 0 0] 44)) (w.heap.size + 1) [.int .i64 0, .int .i64 0, .slice none 0 0, .slice none 0 0] := by
    have := (Box.new (w.alloc (.cells #[.int .i64 r, .int .i64 c, .slice a la ca, .slice b lb cb] 41)) [.int .i64 0, .int .i64 0, .slice none 0 0, .slice none 0 0] 44).al (.cells #[.int .i64 r, .int .i64 c, .slice none 0 0, .slice none 0 0] 44)
    simpa using this
  have ob : Box (((w.alloc (.cells #[.int .i64 r, .int .i64 c, .slice a la ca, .slice b lb cb] 41)).alloc (.cells #[.int .i64 0, .int .i64 0, .slice none 0 0, .slice none 0 0] 44)).alloc (.cells #[.int .i64 r, .int .i64 c, .slice none 0 0, .slice none 0 0] 44)) (w.heap.size + 1 + 1) [.int .i64 r, .int .i64 c, .slice none 0 0, .slice none 0 0] := by
    have := Box.new ((w.alloc (.cells #[.int .i64 r, .int .i64 c, .slice a la ca, .slice b lb cb] 41)).alloc (.cells #[.int .i64 0, .int .i64 0, .slice none 0 0, .slice none 0 0] 44)) [.int .i64 r, .int .i64 c, .slice none 0 0, .slice none 0 0] 44
    simpa using this
  go_enter Try.func35, Try.ntmps35
  go_wp2_with fail
  refine (toI2 a la ca xs _ (h.below bw) hla).mono ?_
  rintro e w1 ⟨rfl, s1, b1, -⟩
  simp only [size3] at s1
  have pb := pb.below b1
  have rb := rb.below b1
  have ob := ob.below b1
  have bw := below_to bw b1
  have hz1 : w.heap.size + 1 + 1 + 1 ≤ w1.heap.size := by have := b1.size; omega
  have hz2 : 0 < la → w.heap.size + 1 + 1 + 1 + 1 ≤ w1.heap.size := by intro h0; obtain ⟨q, hq, q1, q2, q3, -⟩ := s1.2 h0; omega
  clear b1 hz
  have c0 := (pb.2 0 _ rfl).1
  have c1 := (pb.2 1 _ rfl).1
  have c2 := (pb.2 2 _ rfl).1
  have c3 := (pb.2 3 _ rfl).1
  have d0 := (ob.2 0 _ rfl).1
  have d1 := (ob.2 1 _ rfl).1
  have d2 := (ob.2 2 _ rfl).1
  have d3 := (ob.2 3 _ rfl).1
  have e0 := (ob.2 0 _ rfl).2
  have e1 := (ob.2 1 _ rfl).2
  have e2 := (ob.2 2 _ rfl).2
  have e3 := (ob.2 3 _ rfl).2
  have hz3 := hid hz2
  clear hz2
  go_wp2_with fail
  have s1 := s1.off ⟨w.heap.size + 1 + 1, 2, none⟩ (.slice (some ⟨w.heap.size + 1 + 1 + 1, 0, none⟩) la la) (by simp)
  have pb := pb.off ⟨w.heap.size + 1 + 1, 2, none⟩ (.slice (some ⟨w.heap.size + 1 + 1 + 1, 0, none⟩) la la) (by simp; omega)
  have rb := rb.off ⟨w.heap.size + 1 + 1, 2, none⟩ (.slice (some ⟨w.heap.size + 1 + 1 + 1, 0, none⟩) la la) (by simp)
  have ob := ob.set 2 (.slice (some ⟨w.heap.size + 1 + 1 + 1, 0, none⟩) la la)
  have bw : Below w.heap.size w (w1.setCell ⟨w.heap.size + 1 + 1, 2, none⟩ (.slice (some ⟨w.heap.size + 1 + 1 + 1, 0, none⟩) la la)) := bw.setCell (by simp; omega) _
  refine (toI2 b lb cb ys _ (g.below bw) hlb).mono ?_
  rintro e w2 ⟨rfl, s2, b2, hw2⟩
  have s1 := s1.below b2
  have pb := pb.below b2
  have rb := rb.below b2
  have ob := ob.below b2
  have bw := below_to bw b2
  clear b2
  simp only [sizeSet] at s2 hw2
  clear c0 d0 e0 c1 d1 e1 c2 d2 e2 c3 d3 e3
  have c0 := (pb.2 0 _ rfl).1
  have c1 := (pb.2 1 _ rfl).1
  have c2 := (pb.2 2 _ rfl).1
  have c3 := (pb.2 3 _ rfl).1
  have d0 := (ob.2 0 _ rfl).1
  have d1 := (ob.2 1 _ rfl).1
  have d2 := (ob.2 2 _ rfl).1
  have d3 := (ob.2 3 _ rfl).1
  have e0 := (ob.2 0 _ rfl).2
  have e1 := (ob.2 1 _ rfl).2
  have e2 := (ob.2 2 _ rfl).2
  have e3 := (ob.2 3 _ rfl).2
  have f0 := (rb.2 0 _ rfl).1
  have f1 := (rb.2 1 _ rfl).1
  have f2 := (rb.2 2 _ rfl).1
  have f3 := (rb.2 3 _ rfl).1
  have g0 := (rb.2 0 _ rfl).2
  have g1 := (rb.2 1 _ rfl).2
  have g2 := (rb.2 2 _ rfl).2
  have g3 := (rb.2 3 _ rfl).2
  go_wp2_with fail
  refine bodyPost_ret (v := .agg #[.int .i64 r, .int .i64 c, .slice (some ⟨w.heap.size + 1 + 1 + 1, 0, none⟩) la la, .slice (some ⟨w1.heap.size, 0, none⟩) lb lb]) (by simp [results, Try.results35, go_sem, f0, f1, f2, f3]) rfl ⟨_, _, w1.heap.size, rfl, ?_, ?_, by omega, ?_, ?_⟩
  · have key : ∀ W, OwB (w.heap.size + 1 + 1 + 1) (w.heap.size + 1 + 1 + 1 + 1) W (some ⟨w.heap.size + 1 + 1 + 1, 0, none⟩) la xs → OwB w.heap.size w1.heap.size W (some ⟨w.heap.size + 1 + 1 + 1, 0, none⟩) la xs := by
      intro W s1
      refine ⟨s1.1, fun h0 => ?_⟩
      have := hz3.out h0
      obtain ⟨q, hq, q1, q2, q3, hc⟩ := s1.2 h0
      exact ⟨q, hq, by omega, by omega, q3, hc⟩
    apply key
    repeat (first | exact s1 | refine OwB.off ?_ _ _ (by simp <;> omega))
  · refine OwB.mono (lo := w1.heap.size) (hi := w1.heap.size + 1) ?_ (Nat.le_refl _) (by simp [World.setCell]; omega)
    repeat (first | exact s2 | refine OwB.off ?_ _ _ (by simp <;> omega))
  · simp [World.setCell]; omega
  · repeat (first | exact bw | refine Below.setCell ?_ (by simp <;> omega) _)
def RetPo (la : Nat) (xs : List Int) (lb : Nat) (ys : List Int) (w : World) (e : Ending) (w' : World) : Prop := ∃ a b m, e = .returned (.agg #[.slice a la la, .slice b lb lb]) ∧ OwB w.heap.size m w' a la xs ∧ OwB m w'.heap.size w' b lb ys ∧ w.heap.size ≤ m ∧ m ≤ w'.heap.size ∧ Below w.heap.size w w'
set_option maxHeartbeats 2000000 in
theorem toPo (a : Option Addr) (la ca : Nat) (xs : List Int) (b : Option Addr) (lb cb : Nat) (ys : List Int) (w : World) (h : SlV (Value.int .i64) w a la xs) (g : SlV (Value.int .i64) w b lb ys) (hla : la ≤ 1048576) (hlb : lb ≤ 1048576) : Calls Try.prog 30 #[.agg #[.slice a la ca, .slice b lb cb]] w (RetPo  la xs lb ys w) := by
  have hz : (((w.alloc (.cells #[.slice a la ca, .slice b lb cb] 33)).alloc (.cells #[.slice none 0 0, .slice none 0 0] 36)).alloc (.cells #[.slice none 0 0, .slice none 0 0] 36)).heap.size = w.heap.size + 1 + 1 + 1 := size3 _ _ _ _
  have bw : Below w.heap.size w (((w.alloc (.cells #[.slice a la ca, .slice b lb cb] 33)).alloc (.cells #[.slice none 0 0, .slice none 0 0] 36)).alloc (.cells #[.slice none 0 0, .slice none 0 0] 36)) := by repeat (first | exact Below.refl _ _ | refine Below.alloc ?_ (by simp <;> omega) _)
  have pb : Box (((w.alloc (.cells #[.slice a la ca, .slice b lb cb] 33)).alloc (.cells #[.slice none 0 0, .slice none 0 0] 36)).alloc (.cells #[.slice none 0 0, .slice none 0 0] 36)) w.heap.size [.slice a la ca, .slice b lb cb] := ((Box.new _ _ _).al _).al _
  have rb : Box (((w.alloc (.cells #[.slice a la ca, .slice b lb cb] 33)).alloc (.cells #[.slice none 0 0, .slice none 0 0] 36)).alloc (.cells #[.slice none 0 0, .slice none 0 0] 36)) (w.heap.size + 1) [.slice none 0 0, .slice none 0 0] := by
    have := (Box.new (w.alloc (.cells #[.slice a la ca, .slice b lb cb] 33)) [.slice none 0 0, .slice none 0 0] 36).al (.cells #[.slice none 0 0, .slice none 0 0] 36)
    simpa using this
  have ob : Box (((w.alloc (.cells #[.slice a la ca, .slice b lb cb] 33)).alloc (.cells #[.slice none 0 0, .slice none 0 0] 36)).alloc (.cells #[.slice none 0 0, .slice none 0 0] 36)) (w.heap.size + 1 + 1) [.slice none 0 0, .slice none 0 0] := by
    have := Box.new ((w.alloc (.cells #[.slice a la ca, .slice b lb cb] 33)).alloc (.cells #[.slice none 0 0, .slice none 0 0] 36)) [.slice none 0 0, .slice none 0 0] 36
    simpa using this
  go_enter Try.func30, Try.ntmps30
  go_wp2_with fail
  refine (toI2 a la ca xs _ (h.below bw) hla).mono ?_
  rintro e w1 ⟨rfl, s1, b1, -⟩
  simp only [size3] at s1
  have pb := pb.below b1
  have rb := rb.below b1
  have ob := ob.below b1
  have bw := below_to bw b1
  have hz1 : w.heap.size + 1 + 1 + 1 ≤ w1.heap.size := by have := b1.size; omega
  have hz2 : 0 < la → w.heap.size + 1 + 1 + 1 + 1 ≤ w1.heap.size := by intro h0; obtain ⟨q, hq, q1, q2, q3, -⟩ := s1.2 h0; omega
  clear b1 hz
  have c0 := (pb.2 0 _ rfl).1
  have c1 := (pb.2 1 _ rfl).1
  have d0 := (ob.2 0 _ rfl).1
  have d1 := (ob.2 1 _ rfl).1
  have e0 := (ob.2 0 _ rfl).2
  have e1 := (ob.2 1 _ rfl).2
  have hz3 := hid hz2
  clear hz2
  go_wp2_with fail
  have s1 := s1.off ⟨w.heap.size + 1 + 1, 0, none⟩ (.slice (some ⟨w.heap.size + 1 + 1 + 1, 0, none⟩) la la) (by simp)
  have pb := pb.off ⟨w.heap.size + 1 + 1, 0, none⟩ (.slice (some ⟨w.heap.size + 1 + 1 + 1, 0, none⟩) la la) (by simp; omega)
  have rb := rb.off ⟨w.heap.size + 1 + 1, 0, none⟩ (.slice (some ⟨w.heap.size + 1 + 1 + 1, 0, none⟩) la la) (by simp)
  have ob := ob.set 0 (.slice (some ⟨w.heap.size + 1 + 1 + 1, 0, none⟩) la la)
  have bw : Below w.heap.size w (w1.setCell ⟨w.heap.size + 1 + 1, 0, none⟩ (.slice (some ⟨w.heap.size + 1 + 1 + 1, 0, none⟩) la la)) := bw.setCell (by simp; omega) _
  refine (toI2 b lb cb ys _ (g.below bw) hlb).mono ?_
  rintro e w2 ⟨rfl, s2, b2, hw2⟩
  have s1 := s1.below b2
  have pb := pb.below b2
  have rb := rb.below b2
  have ob := ob.below b2
  have bw := below_to bw b2
  clear b2
  simp only [sizeSet] at s2 hw2
  clear c0 d0 e0 c1 d1 e1
  have c0 := (pb.2 0 _ rfl).1
  have c1 := (pb.2 1 _ rfl).1
  have d0 := (ob.2 0 _ rfl).1
  have d1 := (ob.2 1 _ rfl).1
  have e0 := (ob.2 0 _ rfl).2
  have e1 := (ob.2 1 _ rfl).2
  have f0 := (rb.2 0 _ rfl).1
  have f1 := (rb.2 1 _ rfl).1
  have g0 := (rb.2 0 _ rfl).2
  have g1 := (rb.2 1 _ rfl).2
  go_wp2_with fail
  refine bodyPost_ret (v := .agg #[.slice (some ⟨w.heap.size + 1 + 1 + 1, 0, none⟩) la la, .slice (some ⟨w1.heap.size, 0, none⟩) lb lb]) (by simp [results, Try.results30, go_sem, f0, f1]) rfl ⟨_, _, w1.heap.size, rfl, ?_, ?_, by omega, ?_, ?_⟩
  · have key : ∀ W, OwB (w.heap.size + 1 + 1 + 1) (w.heap.size + 1 + 1 + 1 + 1) W (some ⟨w.heap.size + 1 + 1 + 1, 0, none⟩) la xs → OwB w.heap.size w1.heap.size W (some ⟨w.heap.size + 1 + 1 + 1, 0, none⟩) la xs := by
      intro W s1
      refine ⟨s1.1, fun h0 => ?_⟩
      have := hz3.out h0
      obtain ⟨q, hq, q1, q2, q3, hc⟩ := s1.2 h0
      exact ⟨q, hq, by omega, by omega, q3, hc⟩
    apply key
    repeat (first | exact s1 | refine OwB.off ?_ _ _ (by simp <;> omega))
  · refine OwB.mono (lo := w1.heap.size) (hi := w1.heap.size + 1) ?_ (Nat.le_refl _) (by simp [World.setCell]; omega)
    repeat (first | exact s2 | refine OwB.off ?_ _ _ (by simp <;> omega))
  · simp [World.setCell]; omega
  · repeat (first | exact bw | refine Below.setCell ?_ (by simp <;> omega) _)
/-- A row of which the first j cells are marked. -/
structure Mk (lo hi : Nat) (w : World) (a : Option Addr) (len : Nat) (xs : List Int) (k j : Nat) (wr : World) : Prop where
  mid : Mid lo hi w wr
  row : 0 < len → ∃ b, a = some ⟨b, 0, none⟩ ∧ lo ≤ b ∧ b < hi ∧ b < wr.heap.size ∧ ∀ i, i < len → wr.cell? ⟨b, i, none⟩ = some (.int .i64 (if i < j then ((k + i : Nat) : Int) else xs.getD i 0)) ∧ wr.frozen? ⟨b, i, none⟩ = false
theorem Mk.step {lo hi : Nat} {w : World} {b len : Nat} {xs : List Int} {k j : Nat} {wr : World} (h : Mk lo hi w (some ⟨b, 0, none⟩) len xs k j wr) (hj : j < len) : Mk lo hi w (some ⟨b, 0, none⟩) len xs k (j + 1) (wr.setCell ⟨b, j, none⟩ (.int .i64 ((k + j : Nat) : Int))) := by
  obtain ⟨b1, hb, h1, h2, h3, hc⟩ := h.row (by omega)
  obtain rfl : b = b1 := by injection hb with hb; injection hb
  refine ⟨h.mid.trans (Mid.setCell _ _ h1 h2), fun _ => ⟨b, rfl, h1, h2, by simpa [World.setCell] using h3, fun i hi2 => ⟨?_, by simp [(hc i hi2).2]⟩⟩⟩
  by_cases e : i = j
  · subst e
    rw [World.cell?_setCell_same _ _ _ (hc i hi2).1, if_pos (by omega)]
  · have e2 : (⟨b, j, none⟩ : Addr) ≠ ⟨b, i, none⟩ := by
      intro h; injection h with h1 h2; exact e h2.symm
    rw [World.cell?_setCell_other _ _ _ _ e2, (hc i hi2).1]
    by_cases h2 : i < j
    · rw [if_pos h2, if_pos (by omega)]
    · rw [if_neg h2, if_neg (by omega)]
theorem Mk.done {lo hi : Nat} {w : World} {a : Option Addr} {len : Nat} {xs : List Int} {k : Nat} {wr : World} (h : Mk lo hi w a len xs k len wr) : OwB lo hi wr a len (iota k len) := by
  refine ⟨iota_length _ _, fun h0 => ?_⟩
  obtain ⟨b, hb, h1, h2, h3, hc⟩ := h.row h0
  refine ⟨b, hb, h1, h2, h3, fun i hi2 => ⟨?_, (hc i hi2).2⟩⟩
  rw [(hc i hi2).1, if_pos hi2, iota_getD _ _ _ hi2]
set_option maxHeartbeats 400000 in
theorem markI (lo hi : Nat) (a : Option Addr) (len cap : Nat) (xs : List Int) (k : Nat) (w : World) (h : OwB lo hi w a len xs) (hl : len ≤ 1048576) (hk : k ≤ 16777216) : Calls Try.prog 46 #[.slice a len cap, .int .i64 k] w fun e w' => e = .returned (.int .i64 ((k + len : Nat) : Int)) ∧ OwB lo hi w' a len (iota k len) ∧ Mid lo hi w w' := by
  have hst : Hid (Mk lo hi w a len xs k 0 w) := hid ⟨Mid.refl _ _ _, fun h0 => by
    obtain ⟨b, hb, h1, h2, h3, hc⟩ := h.2 h0
    exact ⟨b, hb, h1, h2, h3, fun i hi2 => by rw [if_neg (by omega)]; exact hc i hi2⟩⟩
  clear h
  go_enter Try.func46, Try.ntmps46
  go_wp2_with fail
  go_loopw [1, 5] (fun q i wr => ∃ j : Nat, j ≤ len ∧ i = .int .i64 j ∧ q = .int .i64 ((k + j : Nat) : Int) ∧ Mk lo hi w a len xs k j wr) (fun _ i _ => len - (intOf i).toNat)
  case atStart => exact ⟨0, Nat.zero_le _, rfl, rfl, hst.out⟩
  case round =>
    obtain ⟨j, hj, rfl, rfl, hm⟩ := hrel
    have HM := hid hm
    clear hm
    by_cases hlt : j < len
    · obtain ⟨b, rfl, h1, h2, h3, hc⟩ := HM.out.row (by omega)
      have hc1 := (hc j hlt).1
      rw [if_neg (by omega)] at hc1
      have hc2 := (hc j hlt).2
      clear hc
      obtain ⟨s, hs⟩ : ∃ s, k + j = s := ⟨_, rfl⟩
      have hs2 : s ≤ 33554432 := by omega
      rw [hs]
      have HS := hid hs
      clear hs
      go_wp2_with fail
      go_roundw
      case rel => exact ⟨j + 1, by omega, by go_num, by have := HS.out; go_num, by have := HM.out.step hlt; rw [HS.out] at this; exact this⟩
      case measure => simp [intOf]; omega
    · obtain rfl : j = len := by omega
      go_wp2_with fail
      go_ret
      exact ⟨rfl, HM.out.done, HM.out.mid⟩
set_option maxHeartbeats 400000 in
theorem heldI (a : Option Addr) (len cap : Nat) (k : Nat) (w : World) (h : SlV (Value.int .i64) w a len (iota k len)) (hl : len ≤ 1048576) (hk : k ≤ 16777216) : Calls Try.prog 55 #[.slice a len cap, .int .i64 k] w fun e w' => e = .returned (.int .i64 ((k + len : Nat) : Int)) ∧ w' = w := by
  have H := hid h
  clear h
  go_enter Try.func55, Try.ntmps55
  go_wp2_with fail
  go_loopw [1, 5] (fun q i wr => ∃ j : Nat, j ≤ len ∧ i = .int .i64 j ∧ q = .int .i64 ((k + j : Nat) : Int) ∧ wr = w) (fun _ i _ => len - (intOf i).toNat)
  case atStart => exact ⟨0, Nat.zero_le _, rfl, rfl, rfl⟩
  case round =>
    obtain ⟨j, hj, rfl, rfl, rfl⟩ := hrel
    obtain ⟨s, hs⟩ : ∃ s, k + j = s := ⟨_, rfl⟩
    have hs2 : s ≤ 33554432 := by omega
    rw [hs]
    have HS := hid hs
    clear hs
    by_cases hlt : j < len
    · obtain ⟨b, off, rfl, h3, hc⟩ := H.out.2 (by omega)
      have hc1 : wr.cell? ⟨b, off + j, none⟩ = some (.int .i64 (s : Int)) := by
        rw [hc j hlt]; congr 2; rw [← HS.out]; exact iota_getD _ _ _ hlt
      clear hc
      have hne : ((s : Int) != (s : Int)) = false := by simp
      go_wp2_with fail
      go_roundw
      case rel => exact ⟨j + 1, by omega, by go_num, by have := HS.out; go_num, by first | rfl | trivial⟩
      case measure => simp [intOf]; omega
    · obtain rfl : j = len := by omega
      go_wp2_with fail
      go_ret
      exact ⟨by rw [HS.out]; rfl, rfl⟩
set_option maxHeartbeats 400000 in
theorem markG (r : Int) (c : Int) (lo md hi : Nat) (a : Option Addr) (la ca : Nat) (xs : List Int) (b : Option Addr) (lb cb : Nat) (ys : List Int) (k : Nat) (w : World) (h : OwB lo md w a la xs) (g : OwB md hi w b lb ys) (hmd : md ≤ w.heap.size) (hhi : hi ≤ w.heap.size) (hlm : lo ≤ md) (hmh : md ≤ hi) (hla : la ≤ 1048576) (hlb : lb ≤ 1048576) (hk : k ≤ 8388608) : Calls Try.prog 47 #[.agg #[.int .i64 r, .int .i64 c, .slice a la ca, .slice b lb cb], .int .i64 k] w fun e w' => e = .returned (.int .i64 ((k + la + lb : Nat) : Int)) ∧ Mid lo hi w w' := by
  have bw : Below w.heap.size w (w.alloc (.cells #[.int .i64 r, .int .i64 c, .slice a la ca, .slice b lb cb] 44)) := Below.alloc (Below.refl _ _) (Nat.le_refl _) _
  have hbox : Box (w.alloc (.cells #[.int .i64 r, .int .i64 c, .slice a la ca, .slice b lb cb] 44)) w.heap.size [.int .i64 r, .int .i64 c, .slice a la ca, .slice b lb cb] := Box.new _ _ _
  have HB := hid bw
  have HX := hid hbox
  have HA := hid (markI lo md a la ca xs k _ (h.below bw) hla (by omega))
  have HG := hid (g.below bw)
  clear bw hbox h g
  go_enter Try.func47, Try.ntmps47
  go_wp2_with fail
  refine HA.out.mono ?_
  rintro e w1 ⟨rfl, -, m1⟩
  have HBX := hid (HX.out.mid m1 (.inr hmd))
  have f1 := (HBX.out.2 3 _ rfl).1
  have HG1 := hid (HG.out.mid m1 (.inr (Nat.le_refl _)))
  have HM := hid ((Mid.of_below (lo := lo) (hi := hi) HB.out).trans (m1.mono (Nat.le_refl _) hmh))
  clear m1
  obtain ⟨s, hs⟩ : ∃ s, k + la = s := ⟨_, rfl⟩
  rw [hs]
  have hs2 : s ≤ 16777216 := by omega
  have HSS := hid hs
  clear hs
  go_wp2_with fail
  refine (markI md hi b lb cb ys s _ HG1.out hlb (by omega)).mono ?_
  rintro e w2 ⟨rfl, -, m2⟩
  have HM2 := hid (HM.out.trans (m2.mono hlm (Nat.le_refl _)))
  clear m2
  go_wp2_with fail
  go_ret
  exact ⟨by rw [HSS.out]; rfl, HM2.out⟩
set_option maxHeartbeats 400000 in
theorem markP (lo md hi : Nat) (a : Option Addr) (la ca : Nat) (xs : List Int) (b : Option Addr) (lb cb : Nat) (ys : List Int) (k : Nat) (w : World) (h : OwB lo md w a la xs) (g : OwB md hi w b lb ys) (hmd : md ≤ w.heap.size) (hhi : hi ≤ w.heap.size) (hlm : lo ≤ md) (hmh : md ≤ hi) (hla : la ≤ 1048576) (hlb : lb ≤ 1048576) (hk : k ≤ 8388608) : Calls Try.prog 73 #[.agg #[.slice a la ca, .slice b lb cb], .int .i64 k] w fun e w' => e = .returned (.int .i64 ((k + la + lb : Nat) : Int)) ∧ Mid lo hi w w' := by
  have bw : Below w.heap.size w (w.alloc (.cells #[.slice a la ca, .slice b lb cb] 36)) := Below.alloc (Below.refl _ _) (Nat.le_refl _) _
  have hbox : Box (w.alloc (.cells #[.slice a la ca, .slice b lb cb] 36)) w.heap.size [.slice a la ca, .slice b lb cb] := Box.new _ _ _
  have HB := hid bw
  have HX := hid hbox
  have HA := hid (markI lo md a la ca xs k _ (h.below bw) hla (by omega))
  have HG := hid (g.below bw)
  clear bw hbox h g
  go_enter Try.func73, Try.ntmps73
  go_wp2_with fail
  refine HA.out.mono ?_
  rintro e w1 ⟨rfl, -, m1⟩
  have HBX := hid (HX.out.mid m1 (.inr hmd))
  have f1 := (HBX.out.2 1 _ rfl).1
  have HG1 := hid (HG.out.mid m1 (.inr (Nat.le_refl _)))
  have HM := hid ((Mid.of_below (lo := lo) (hi := hi) HB.out).trans (m1.mono (Nat.le_refl _) hmh))
  clear m1
  obtain ⟨s, hs⟩ : ∃ s, k + la = s := ⟨_, rfl⟩
  rw [hs]
  have hs2 : s ≤ 16777216 := by omega
  have HSS := hid hs
  clear hs
  go_wp2_with fail
  refine (markI md hi b lb cb ys s _ HG1.out hlb (by omega)).mono ?_
  rintro e w2 ⟨rfl, -, m2⟩
  have HM2 := hid (HM.out.trans (m2.mono hlm (Nat.le_refl _)))
  clear m2
  go_wp2_with fail
  go_ret
  exact ⟨by rw [HSS.out]; rfl, HM2.out⟩
end TryWalk
end Go.Proofs.Ytlbmmecjiopbbaa
