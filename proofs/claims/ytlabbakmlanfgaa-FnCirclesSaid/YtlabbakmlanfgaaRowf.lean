/- What the walk of a law is told of the slices that come in: they read as lists, each element fits. No condition. -/
import Derived.Test.YtlabbakmlanfgaaSl
import Derived.ProofKit
import Derived.OpenShut
import Derived.ShutString
import Derived.ChangeOld
import Derived.Laws.Cover2
import Derived.Deep.Slices
namespace Go.Proofs.Ytlabbakmlanfgaa
open Go Go.RowKit Go.ChangeShapes Go.WideShapes Go.ChangeAt Sl
set_option linter.unusedVariables false
theorem block_lt {w : World} {p : Addr} {v : Value} (h : w.cell? p = some v) : p.block < w.heap.size := by
  rcases Nat.lt_or_ge p.block w.heap.size with g | g
  · exact g
  · unfold World.cell? at h
    rw [Array.getElem?_eq_none g] at h
    simp at h
theorem addr_form {w : World} {p : Addr} {v : Value} (h : w.cell? p = some v) : p.spot = none := World.cell?_spot h
theorem add_at (b off i : Nat) : (⟨b, off, none⟩ : Addr).add i = ⟨b, off + i, none⟩ := by
  unfold Addr.add
  split
  · rename_i h; subst h; rfl
  · rfl
/-- A slice of integers that came in. -/
def IsRow (k : IntKind) (w : World) (a : Option Addr) (len cap : Nat) (zs : List Int) : Prop := SlV (Value.int k) w a len zs ∧ (∀ n ∈ zs, (Lit.int k n).wf = true) ∧ len ≤ maxLen
def IsRowF (k : FloatKind) (w : World) (a : Option Addr) (len cap : Nat) (zs : List Nat) : Prop := SlV (Value.float k) w a len zs ∧ (∀ n ∈ zs, (Lit.float k n).wf = true) ∧ len ≤ maxLen
section
variable {H : Type} {enc : TypeId × Value → H} {P : Program} {w : World}
theorem row_of_trod {t e : TypeId} {k : IntKind} {a : Option Addr} {len cap : Nat} {y : DataW H} {ps : List MemPlace} (ht : P.underlying t = some (.slice e)) (he : P.underlying e = some (.int k)) (hc : P.cellsOf e = 1)
    (h : DataW.Trod enc P w 0 (fun _ => true) true t (.slice a len cap) y ps) : ∃ zs, IsRow k w a len cap zs := by
  obtain ⟨fuel, hf⟩ := h
  rcases open_ints ht he hc hf with ⟨hcs, _⟩ | ⟨x, l, c, zs, hcs, _, hl, hm, hz, _, hcell, hwz⟩
  · simp [Value.cells] at hcs
    obtain ⟨rfl, rfl, rfl⟩ := hcs
    exact ⟨[], ⟨rfl, fun h => by omega⟩, by simp, Nat.zero_le _⟩
  · simp [Value.cells] at hcs
    obtain ⟨rfl, rfl, rfl⟩ := hcs
    simp only [if_true] at hz
    refine ⟨zs.take len, ⟨by rw [List.length_take]; omega, fun h0 => ?_⟩, fun n hn => hwz n (List.mem_of_mem_take hn), by omega⟩
    have h1 := hcell 0 (by omega)
    have hs := addr_form h1
    have hb := block_lt h1
    obtain ⟨b, off, spot⟩ := x
    have hs' : spot = none := by simpa [Addr.add] using hs
    subst hs'
    refine ⟨b, off, rfl, by simpa [Addr.add] using hb, fun i hi => ?_⟩
    have h2 := hcell i (by omega)
    have e : (zs.take len).getD i default = zs.getD i 0 := by
      have : (default : Int) = 0 := rfl
      rw [this, List.getD_eq_getElem?_getD, List.getD_eq_getElem?_getD, List.getElem?_take_of_lt hi]
    rw [e]
    rw [← add_at]; exact h2
theorem trod_float {e : TypeId} {k : FloatKind} {n : Nat} {base : Nat} {spare : Nat → Bool} {held : Bool} {cs : List Value} {y : DataW H × List MemPlace} (he : P.underlying e = some (.float k)) (h : DataW.trod enc P w base spare held n e cs = some y) : ∃ b, cs = [.float k b] ∧ (Lit.float k b).wf = true := by
  cases n with
  | zero => simp [DataW.trod] at h
  | succ n =>
    unfold DataW.trod at h
    rw [he] at h
    split at h <;> simp_all
theorem row_of_trodF {t e : TypeId} {k : FloatKind} {a : Option Addr} {len cap : Nat} {y : DataW H} {ps : List MemPlace} (ht : P.underlying t = some (.slice e)) (he : P.underlying e = some (.float k)) (hc : P.cellsOf e = 1)
    (h : DataW.Trod enc P w 0 (fun _ => true) true t (.slice a len cap) y ps) : ∃ zs, IsRowF k w a len cap zs := by
  obtain ⟨fuel, hf⟩ := h
  rcases Go.Deep.open_slice ht hf with ⟨hcs, _⟩ | ⟨x, l, c, m, n, D, Pl, hcs, _, hl, hm, hmm, _, hcell⟩
  · simp [Value.cells] at hcs
    obtain ⟨rfl, rfl, rfl⟩ := hcs
    exact ⟨[], ⟨rfl, fun h => by omega⟩, by simp, Nat.zero_le _⟩
  · simp [Value.cells] at hcs
    obtain ⟨rfl, rfl, rfl⟩ := hcs
    simp only [if_true] at hmm
    have each : ∀ i, ∃ b : Nat, i < len → w.cell? (x.add i) = some (.float k b) ∧ (Lit.float k b).wf = true := by
      intro i
      by_cases hi : i < len
      · obtain ⟨cs', h1, h2⟩ := hcell i (by omega)
        obtain ⟨b, rfl, hw⟩ := trod_float he h2
        rw [hc, Nat.mul_one] at h1
        exact ⟨b, fun _ => ⟨cell_of_cells?_one h1, hw⟩⟩
      · exact ⟨0, fun h => absurd h hi⟩
    obtain ⟨g, hg⟩ := Classical.axiomOfChoice each
    refine ⟨(List.range len).map g, ⟨by simp, fun h0 => ?_⟩, ?_, by omega⟩
    · have h1 := (hg 0 h0).1
      have hs := addr_form h1
      have hb := block_lt h1
      obtain ⟨b, off, spot⟩ := x
      have hs' : spot = none := by simpa [Addr.add] using hs
      subst hs'
      refine ⟨b, off, rfl, by simpa [Addr.add] using hb, fun i hi => ?_⟩
      have h2 := (hg i hi).1
      have e : ((List.range len).map g).getD i default = g i := by
        rw [List.getD_eq_getElem?_getD]
        simp [hi]
      rw [e]
      rw [← add_at]; exact h2
    · intro n hn
      simp only [List.mem_map, List.mem_range] at hn
      obtain ⟨i, hi, rfl⟩ := hn
      exact (hg i hi).2
end
end Go.Proofs.Ytlabbakmlanfgaa
