/- Two lists that a call fills beside one another: neither lies in the other's block. No condition. -/
import Derived.Test.YtlbmmecjiopbbaaWp3
import Derived.Maps.AppendAt
namespace Go.Proofs.Ytlbmmecjiopbbaa
open Go.RowKit Flo Sl Pg
set_option linter.unusedVariables false
namespace TryWalk
structure Twin (w : World) (B : Nat) (v1 : Value) (n1 : Nat) (xs1 : List Int) (v2 : Value) (n2 : Nat) (xs2 : List Int) : Prop where
  r1 : w.ownsRow B 2 1 v1 n1 (xs1.map (Value.int .i64))
  r2 : w.ownsRow B 2 1 v2 n2 (xs2.map (Value.int .i64))
  ne : v1.ownBlock = none ∨ v1.ownBlock ≠ v2.ownBlock
theorem Twin.swap {w : World} {B : Nat} {v1 : Value} {n1 : Nat} {xs1 : List Int} {v2 : Value} {n2 : Nat} {xs2 : List Int} (h : Twin w B v1 n1 xs1 v2 n2 xs2) : Twin w B v2 n2 xs2 v1 n1 xs1 := by
  refine ⟨h.r2, h.r1, ?_⟩
  rcases h.ne with e | e
  · cases hv : v2.ownBlock with
    | none => exact .inl rfl
    | some b => right; rw [e]; exact fun h => by cases h
  · exact .inr (Ne.symm e)
theorem Twin.below {w w' : World} {B : Nat} {v1 : Value} {n1 : Nat} {xs1 : List Int} {v2 : Value} {n2 : Nat} {xs2 : List Int} (h : Twin w B v1 n1 xs1 v2 n2 xs2) (b : Below w.heap.size w w') : Twin w' B v1 n1 xs1 v2 n2 xs2 :=
  ⟨row_below h.r1 b, row_below h.r2 b, h.ne⟩
theorem wpList_appT1 {wq : World} {ops : Array Oper} {rest : List Oper} {o : Oper} {a : Act} {Q : Exit → Act → World → Prop} (hgd : o.guard = none) (s x : Operand)
    (ho : o.op = .call { callee := .builtin .append, args := #[s, x], argTypes := #[22, 22] }) (B : Nat) (hB : B ≤ wq.heap.size) (v1 : Value) (n1 : Nat) (xs1 : List Int) (v2 : Value) (n2 : Nat) (xs2 : List Int) (j : Int) (hs : a.eval s = v1)
    (hown : Twin wq B v1 n1 xs1 v2 n2 xs2) (hn : n1 ≤ 1000000) (hx : a.eval x = .slice (some ⟨wq.heap.size, 0, none⟩) 1 1)
    (h : ∀ v' w1, Twin w1 B v' (n1 + 1) (xs1 ++ [j]) v2 n2 xs2 → Below B wq w1 → wpList Try.prog ops Q rest (a.put o.dst v') w1) : wpList Try.prog ops Q (o :: rest) a (wq.alloc (.cells #[.int .i64 j] 2)) := by
  obtain ⟨i0, hi, hz0, hz1, hz2⟩ := info_parts infoI
  refine wpList_append_own_at _ hgd s x 22 ho B 2 i0 (.int .i64 0) 1 8 Try.underlying22 hi hz0 hz1 hz2 rfl (by decide) v1 n1 _ hs (hown.r1.alloc _) ⟨wq.heap.size, 0, none⟩ 1 1 [.int .i64 j] hx rfl (new_cell _ _) (one_int _) (by unfold maxLen; omega) (by omega) (by simp; omega) ?_
  intro v' w1 hown1 hgrow _ hat
  refine h v' w1 ⟨by simpa using hown1, (hown.r2.alloc _).kept hgrow ?_, ?_⟩ (((Below.refl B wq).alloc hB _).grown hgrow (by simp; omega) (fun q hq => (hown.r1.lt q hq).1))
  · rcases hown.swap.ne with e | e
    · exact .inl e
    · exact .inr e
  · rcases hat with e | e
    · rw [e]; exact hown.ne
    · right
      rw [e]
      intro hh
      have := (hown.r2.lt _ hh.symm).2
      simp at this
      omega
theorem wpList_appT2 {wq : World} {ops : Array Oper} {rest : List Oper} {o : Oper} {a : Act} {Q : Exit → Act → World → Prop} (hgd : o.guard = none) (s x : Operand)
    (ho : o.op = .call { callee := .builtin .append, args := #[s, x], argTypes := #[22, 22] }) (B : Nat) (hB : B ≤ wq.heap.size) (v1 : Value) (n1 : Nat) (xs1 : List Int) (v2 : Value) (n2 : Nat) (xs2 : List Int) (j : Int) (hs : a.eval s = v2)
    (hown : Twin wq B v1 n1 xs1 v2 n2 xs2) (hn : n2 ≤ 1000000) (hx : a.eval x = .slice (some ⟨wq.heap.size, 0, none⟩) 1 1)
    (h : ∀ v' w1, Twin w1 B v1 n1 xs1 v' (n2 + 1) (xs2 ++ [j]) → Below B wq w1 → wpList Try.prog ops Q rest (a.put o.dst v') w1) : wpList Try.prog ops Q (o :: rest) a (wq.alloc (.cells #[.int .i64 j] 2)) :=
  wpList_appT1 hgd s x ho B hB v2 n2 xs2 v1 n1 xs1 j hs hown.swap hn hx (fun v' w1 ht hb => h v' w1 ht.swap hb)
/-- Lists made one after the other. -/
theorem twin_made {w : World} {B : Nat} {v1 : Value} {n1 : Nat} {xs1 : List Int} (h : w.ownsRow B 2 1 v1 n1 (xs1.map (Value.int .i64))) (cur : Array Value) (cap : Nat) (hB : B ≤ w.heap.size) (hm : cap ≤ maxLen) (hs : cur.size = cap) (n2 : Nat) (xs2 : List Int) (hn : n2 ≤ cap) (hx : cur.toList.take n2 = xs2.map (Value.int .i64)) :
    Twin (w.alloc (.cells cur 2)) B v1 n1 xs1 (.slice (some ⟨w.heap.size, 0, none⟩) n2 cap) n2 xs2 := by
  refine ⟨h.alloc _, ⟨?_, .inr ⟨w.heap.size, cap, cur, rfl, hB, (MapKept.heap_alloc w _).1, hn, hm, by omega, by simpa using hx⟩⟩, ?_⟩
  · have : (cur.toList.take n2).length = n2 := by rw [List.length_take]; simp; omega
    rw [← hx, this]; omega
  · right
    intro hh
    have h2 := (h.lt _ hh).2
    exact absurd h2 (Nat.lt_irrefl _)
end TryWalk
end Go.Proofs.Ytlbmmecjiopbbaa
