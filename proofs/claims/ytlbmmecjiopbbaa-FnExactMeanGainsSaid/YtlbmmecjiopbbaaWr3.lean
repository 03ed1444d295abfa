/- Games: two machines: the round: one answer on both sides. No condition. -/
import Derived.Test.YtlbmmecjiopbbaaWr2
namespace Go.Proofs.Ytlbmmecjiopbbaa
open Go.RowKit Flo Sl Pg
set_option linter.unusedVariables false
namespace TryWalk
theorem bothRound (r c : Int) (hr : (Lit.int .i64 r).wf = true) (hc : (Lit.int .i64 c).wf = true) (la : Nat) (xs : List Int) (hla : la ≤ 1048576) (hx : ∀ n ∈ xs, (Lit.int .i64 n).wf = true) (lb : Nat) (ys : List Int) (hlb : lb ≤ 1048576) (hy : ∀ n ∈ ys, (Lit.int .i64 n).wf = true)
    (n1 : Nat) (am : List Int) (l1 : n1 ≤ 1048576) (w1 : ∀ n ∈ am, (Lit.int .i64 n).wf = true) (n2 : Nat) (an : List Int) (l2 : n2 ≤ 1048576) (w2 : ∀ n ∈ an, (Lit.int .i64 n).wf = true)
    (n3 : Nat) (bm : List Int) (l3 : n3 ≤ 1048576) (w3 : ∀ n ∈ bm, (Lit.int .i64 n).wf = true) (n4 : Nat) (bn : List Int) (l4 : n4 ≤ 1048576) (w4 : ∀ n ∈ bn, (Lit.int .i64 n).wf = true) :
    ∃ (F0 F1 : Int) (F2 : Bool), ∀ a ca b cb m1 k1 m2 k2 m3 k3 m4 k4 w, SlV (Value.int .i64) w a la xs → SlV (Value.int .i64) w b lb ys → SlV (Value.int .i64) w m1 n1 am → SlV (Value.int .i64) w m2 n2 an → SlV (Value.int .i64) w m3 n3 bm → SlV (Value.int .i64) w m4 n4 bn →
      Calls Try.prog 67 #[.agg #[.int .i64 r, .int .i64 c, .slice a la ca, .slice b lb cb], .agg #[.slice m1 n1 k1, .slice m2 n2 k2], .agg #[.slice m3 n3 k3, .slice m4 n4 k4]] w (RetV (.tuple #[.int .i64 F0, .int .i64 F1, .bool F2]) w) ∧ Calls Try.prog 68 #[.agg #[.int .i64 r, .int .i64 c, .slice a la ca, .slice b lb cb], .agg #[.slice m1 n1 k1, .slice m2 n2 k2], .agg #[.slice m3 n3 k3, .slice m4 n4 k4]] w (RetV (.tuple #[.int .i64 F0, .int .i64 F1, .bool F2]) w) := by
  cases hv : twoB r c xs ys am an bm bn with
  | false =>
    exact ⟨0, 0, false, fun a ca b cb m1 k1 m2 k2 m3 k3 m4 k4 w hA hB h1 h2 h3 h4 => ⟨spRoundNo r c a la ca xs b lb cb ys m1 n1 k1 am m2 n2 k2 an m3 n3 k3 bm m4 n4 k4 bn w hA hB h1 h2 h3 h4 hla hlb l1 l2 l3 l4 hv, imRoundNo r c a la ca xs b lb cb ys m1 n1 k1 am m2 n2 k2 an m3 n3 k3 bm m4 n4 k4 bn w hA hB h1 h2 h3 h4 hla hlb l1 l2 l3 l4 hv⟩⟩
  | true =>
    obtain ⟨rn, cn, rfl, rfl, -, -, hP⟩ := two_ok hv
    obtain ⟨i0, n0, hR, h64⟩ := Pm.exists_rep (fun n => hP.st8 n)
    refine ⟨i0, ((n0 - i0 : Nat) : Int), true, fun a ca b cb m1 k1 m2 k2 m3 k3 m4 k4 w hA hB h1 h2 h3 h4 => ?_⟩
    obtain rfl : am.length = n1 := h1.1
    obtain rfl : bm.length = n3 := h3.1
    exact ⟨spRoundYes (Pl.mk am an bm bn rn cn am.length bm.length) hP i0 n0 hR h64 a la ca xs b lb cb ys m1 k1 m2 n2 k2 m3 k3 m4 n4 k4 w hA hB h1 h2 h3 h4 hla hlb hv, imRoundYes (Pl.mk am an bm bn rn cn am.length bm.length) hP i0 n0 hR h64 a la ca xs b lb cb ys m1 k1 m2 n2 k2 m3 k3 m4 n4 k4 w hA hB h1 h2 h3 h4 hla hlb hv⟩
end TryWalk
end Go.Proofs.Ytlbmmecjiopbbaa
