/- Slices that a call reads, and rows that it fills. No condition. -/
import Derived.WalkKit
import Derived.WalkLawsBesides
namespace Go.Proofs.Ytlabbakmlanfgaa.Sl
open Go Go.RowKit
set_option linter.unusedVariables false
variable {α : Type} [Inhabited α] {f : α → Value}

section
variable (P : Program) (w : World) (a : Addr) (m : Mode)
@[go_sem] theorem run_store_float (k : FloatKind) (b : Nat) : (store a (.float k b) m).run P w = stored P w a (.float k b) m := run_store P w a _ m rfl
@[go_sem] theorem run_store_complex (k : FloatKind) (b c : Nat) : (store a (.complex k b c) m).run P w = stored P w a (.complex k b c) m := run_store P w a _ m rfl
end
/-- The slice value (a, len) reads as xs in w. -/
def SlV (f : α → Value) (w : World) (a : Option Addr) (len : Nat) (xs : List α) : Prop :=
  xs.length = len ∧ (0 < len → ∃ b off, a = some ⟨b, off, none⟩ ∧ b < w.heap.size ∧ ∀ i, i < len → w.cell? ⟨b, off + i, none⟩ = some (f (xs.getD i default)))
theorem SlV.below {w w' : World} {a : Option Addr} {len : Nat} {xs : List α} (h : SlV f w a len xs) (hb : Below w.heap.size w w') : SlV f w' a len xs := by
  refine ⟨h.1, fun h0 => ?_⟩
  obtain ⟨b, off, ha, hlt, hc⟩ := h.2 h0
  refine ⟨b, off, ha, Nat.lt_of_lt_of_le hlt hb.size, fun i hi => ?_⟩
  rw [hb.cell (p := ⟨b, off + i, none⟩) hlt]
  exact hc i hi
theorem SlV.drewN {w : World} {a : Option Addr} {len : Nat} {xs : List α} (h : SlV f w a len xs) (n : Nat) : SlV f (w.drewN n) a len xs := h
theorem SlV.le {w : World} {a : Option Addr} {len : Nat} {xs : List α} (h : SlV f w a len xs) : xs.length = len := h.1
theorem below_dr {w w' : World} (h : Below w.heap.size w w') (n : Nat) : Below w.heap.size w (w'.drewN n) := below_drewN h n
theorem below_to {w w' w'' : World} (h : Below w.heap.size w w') (g : Below w'.heap.size w' w'') : Below w.heap.size w w'' := h.trans (g.mono h.size)

/-- It returns a slice that reads as xs; nothing that was there has turned. -/
def RetSl (f : α → Value) (len : Nat) (xs : List α) (w : World) (e : Ending) (w' : World) : Prop := ∃ a, e = .returned (.slice a len len) ∧ SlV f w' a len xs ∧ Below w.heap.size w w'

/-- A new row of len cells in block B, of which the first k are filled. -/
structure Cp (f : α → Value) (w : World) (len : Nat) (z : Value) (xs : List α) (k : Nat) (wr : World) : Prop where
  below : Below w.heap.size w wr
  size : wr.heap.size = w.heap.size + 1
  cell : ∀ j, j < len → wr.cell? ⟨w.heap.size, j, none⟩ = some (if j < k then f (xs.getD j default) else z)
  free : ∀ j, wr.frozen? ⟨w.heap.size, j, none⟩ = false
theorem Cp.start (w : World) (len : Nat) (z : Value) (E : TypeId) (xs : List α) : Cp f w len z xs 0 (w.alloc (.cells (madeCells #[z] len) E)) := by
  have hb : (w.alloc (.cells (madeCells #[z] len) E)).heap[w.heap.size]? = some (.cells (madeCells #[z] len) E (0, 0)) := (MapKept.heap_alloc w _).1
  refine ⟨(Below.refl _ _).alloc (Nat.le_refl _) _, by simp, fun j hj => ?_, fun j => ?_⟩
  · simp only [World.cell?, hb]
    simp [madeCells, hj, Nat.mod_one]
  · simp only [World.frozen?, hb]; simp
theorem Cp.step {w wr : World} {len k : Nat} {z : Value} {xs : List α} (h : Cp f w len z xs k wr) (hk : k < len) : Cp f w len z xs (k + 1) (wr.setCell ⟨w.heap.size, k, none⟩ (f (xs.getD k default))) := by
  refine ⟨h.below.setCell (by simp) _, by simp [World.setCell, h.size], fun j hj => ?_, fun j => ?_⟩
  · have hc := h.cell j hj
    by_cases e : j = k
    · subst e
      rw [World.cell?_setCell_same _ _ _ hc, if_pos (by omega)]
    · have e2 : (⟨w.heap.size, k, none⟩ : Addr) ≠ ⟨w.heap.size, j, none⟩ := by
        intro h; injection h with h1 h2; exact e h2.symm
      rw [World.cell?_setCell_other _ _ _ _ e2, hc]
      by_cases h2 : j < k
      · rw [if_pos h2, if_pos (by omega)]
      · rw [if_neg h2, if_neg (by omega)]
  · simp [h.free j]
theorem Cp.done {w wr : World} {len : Nat} {z : Value} {xs : List α} (h : Cp f w len z xs len wr) (hl : xs.length = len) : SlV f wr (some ⟨w.heap.size, 0, none⟩) len xs := by
  refine ⟨hl, fun _ => ⟨w.heap.size, 0, rfl, by rw [h.size]; omega, fun i hi => ?_⟩⟩
  have := h.cell i hi
  rw [if_pos hi] at this
  simpa using this
end Go.Proofs.Ytlabbakmlanfgaa.Sl
