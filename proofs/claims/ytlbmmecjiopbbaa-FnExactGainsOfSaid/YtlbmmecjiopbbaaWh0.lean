/- Lists that a call made: where they lie, what writing into them leaves as it was. No condition. -/
import Derived.Test.YtlbmmecjiopbbaaWi2
namespace Go.Proofs.Ytlbmmecjiopbbaa
open Go.RowKit Flo Sl
set_option linter.unusedVariables false
namespace TryWalk
/-- The slice (a, len) lies at the head of a block from lo to below hi, may be written and reads as xs. -/
def OwB (lo hi : Nat) (w : World) (a : Option Addr) (len : Nat) (xs : List Int) : Prop :=
  xs.length = len ∧ (0 < len → ∃ b, a = some ⟨b, 0, none⟩ ∧ lo ≤ b ∧ b < hi ∧ b < w.heap.size ∧ ∀ i, i < len → w.cell? ⟨b, i, none⟩ = some (.int .i64 (xs.getD i 0)) ∧ w.frozen? ⟨b, i, none⟩ = false)
theorem OwB.slv {lo hi : Nat} {w : World} {a : Option Addr} {len : Nat} {xs : List Int} (h : OwB lo hi w a len xs) : SlV (Value.int .i64) w a len xs := by
  refine ⟨h.1, fun h0 => ?_⟩
  obtain ⟨b, ha, _, _, hs, hc⟩ := h.2 h0
  exact ⟨b, 0, ha, hs, fun i hi => by rw [Nat.zero_add]; exact (hc i hi).1⟩
theorem OwB.mono {lo hi lo' hi' : Nat} {w : World} {a : Option Addr} {len : Nat} {xs : List Int} (h : OwB lo hi w a len xs) (h1 : lo' ≤ lo) (h2 : hi ≤ hi') : OwB lo' hi' w a len xs := by
  refine ⟨h.1, fun h0 => ?_⟩
  obtain ⟨b, ha, g1, g2, g3, hc⟩ := h.2 h0
  exact ⟨b, ha, by omega, by omega, g3, hc⟩
/-- Blocks below lo and from hi on are as they were. -/
structure Mid (lo hi : Nat) (w w' : World) : Prop where
  os : w'.os = w.os
  tape : w'.tape = w.tape
  output : w'.output = w.output
  size : w.heap.size ≤ w'.heap.size
  block : ∀ k, k < w.heap.size → (k < lo ∨ hi ≤ k) → w'.heap[k]? = w.heap[k]?
theorem Mid.refl (lo hi : Nat) (w : World) : Mid lo hi w w := ⟨rfl, rfl, rfl, Nat.le_refl _, fun _ _ _ => rfl⟩
theorem Mid.trans {lo hi : Nat} {a b c : World} (h : Mid lo hi a b) (k : Mid lo hi b c) : Mid lo hi a c :=
  ⟨k.os.trans h.os, k.tape.trans h.tape, k.output.trans h.output, Nat.le_trans h.size k.size, fun i hi hx => (k.block i (Nat.lt_of_lt_of_le hi h.size) hx).trans (h.block i hi hx)⟩
theorem Mid.mono {lo hi lo' hi' : Nat} {w w' : World} (h : Mid lo hi w w') (h1 : lo' ≤ lo) (h2 : hi ≤ hi') : Mid lo' hi' w w' :=
  ⟨h.os, h.tape, h.output, h.size, fun k hk hx => h.block k hk (by omega)⟩
theorem Mid.of_below {lo hi : Nat} {w w' : World} (h : Below w.heap.size w w') : Mid lo hi w w' :=
  ⟨h.os, h.tape, h.output, h.size, fun k hk _ => h.block k hk⟩
theorem Mid.below {lo hi B : Nat} {w w' : World} (h : Mid lo hi w w') (hB : B ≤ lo) (hs : B ≤ w.heap.size) : Below B w w' :=
  ⟨h.os, h.tape, h.output, h.size, fun k hk => h.block k (by omega) (.inl (by omega))⟩
theorem Mid.setCell {lo hi : Nat} {w : World} (p : Addr) (u : Value) (h1 : lo ≤ p.block) (h2 : p.block < hi) : Mid lo hi w (w.setCell p u) :=
  ⟨rfl, rfl, rfl, by simp [World.setCell], fun k hk hx => Below.heap_setCell _ _ _ _ (by omega)⟩
theorem cell_at {w w' : World} {p : Addr} (h : w'.heap[p.block]? = w.heap[p.block]?) : w'.cell? p = w.cell? p ∧ w'.frozen? p = w.frozen? p := by
  constructor
  · simp only [World.cell?, h]
  · simp only [World.frozen?, h]
theorem OwB.mid {lo hi lo' hi' : Nat} {w w' : World} {a : Option Addr} {len : Nat} {xs : List Int} (h : OwB lo' hi' w a len xs) (m : Mid lo hi w w') (hx : hi' ≤ lo ∨ hi ≤ lo') : OwB lo' hi' w' a len xs := by
  refine ⟨h.1, fun h0 => ?_⟩
  obtain ⟨b, ha, g1, g2, g3, hc⟩ := h.2 h0
  refine ⟨b, ha, g1, g2, Nat.lt_of_lt_of_le g3 m.size, fun i hi2 => ?_⟩
  have hb := m.block b g3 (by omega)
  have := cell_at (p := ⟨b, i, none⟩) hb
  rw [this.1, this.2]
  exact hc i hi2
theorem OwB.below {lo hi : Nat} {w w' : World} {a : Option Addr} {len : Nat} {xs : List Int} (h : OwB lo hi w a len xs) (b : Below w.heap.size w w') : OwB lo hi w' a len xs := by
  refine ⟨h.1, fun h0 => ?_⟩
  obtain ⟨k, ha, g1, g2, g3, hc⟩ := h.2 h0
  refine ⟨k, ha, g1, g2, Nat.lt_of_lt_of_le g3 b.size, fun i hi2 => ?_⟩
  have := cell_at (p := ⟨k, i, none⟩) (b.block k g3)
  rw [this.1, this.2]
  exact hc i hi2
theorem Box.mid {lo hi : Nat} {w w' : World} {k : Nat} {vs : List Value} (h : Box w k vs) (m : Mid lo hi w w') (hx : k < lo ∨ hi ≤ k) : Box w' k vs := by
  refine ⟨Nat.lt_of_lt_of_le h.1 m.size, fun i v hv => ?_⟩
  have := cell_at (p := ⟨k, i, none⟩) (m.block k h.1 hx)
  rw [this.1, this.2]
  exact h.2 i v hv
/-- A row that append made is such a list. -/
theorem OwB.of_row {base : Nat} {w : World} {v : Value} {n : Nat} {xs : List Int} (h : w.ownsRow base 2 1 v n (xs.map (Value.int .i64))) :
    ∃ a cap, v = .slice a n cap ∧ n ≤ cap ∧ OwB base w.heap.size w a n xs := by
  have hl : xs.length = n := by have := h.1; simpa using this
  rcases h.2 with ⟨rfl, rfl⟩ | ⟨g, cap, cur, rfl, hb, hg, hn, _, hsz, htk⟩
  · exact ⟨none, 0, rfl, Nat.le_refl _, hl, fun h0 => absurd h0 (Nat.lt_irrefl _)⟩
  · have hlt : g < w.heap.size := (Array.getElem?_eq_some_iff.1 hg).1
    refine ⟨some ⟨g, 0, none⟩, cap, rfl, hn, hl, fun _ => ⟨g, rfl, hb, hlt, hlt, fun i hi => ?_⟩⟩
    constructor
    · rw [cell_of_row w g i cur 2 (0, 0) hg]
      have e1 : cur[i]? = (cur.toList.take (n * 1))[i]? := by
        rw [List.getElem?_take, if_pos (by omega)]; simp
      rw [e1, htk, List.getElem?_map, List.getD_eq_getElem?_getD, List.getElem?_eq_getElem (by omega)]
      rfl
    · simp only [World.frozen?, hg]; simp
/-- It returns a list of its own and a truth value. -/
def RetLB (F : List Int) (d : Bool) (w : World) (e : Ending) (w' : World) : Prop := ∃ a cap, e = .returned (.tuple #[.slice a F.length cap, .bool d]) ∧ OwB w.heap.size w'.heap.size w' a F.length F ∧ Below w.heap.size w w'
def iota (k : Nat) : Nat → List Int
  | 0 => []
  | n + 1 => (k : Int) :: iota (k + 1) n
theorem iota_length (k n : Nat) : (iota k n).length = n := by
  induction n generalizing k with
  | zero => rfl
  | succ n ih => simp [iota, ih]
theorem iota_getD (k n i : Nat) (h : i < n) : (iota k n).getD i 0 = ((k + i : Nat) : Int) := by
  induction n generalizing k i with
  | zero => omega
  | succ n ih =>
    cases i with
    | zero => simp [iota]
    | succ i =>
      have := ih (k + 1) i (by omega)
      simp only [iota, List.getD_cons_succ]
      rw [this]; congr 1; omega
end TryWalk
end Go.Proofs.Ytlbmmecjiopbbaa
