/- Games: the value of two rows: both sides. No condition. -/
import Derived.Test.YtlbmmecjiopbbaaWt5
import Derived.Test.YtlbmmecjiopbbaaWt6
namespace Go.Proofs.Ytlbmmecjiopbbaa
open Go.RowKit Flo Sl Pg
set_option linter.unusedVariables false
namespace TryWalk
theorem bothTwo (r c : Int) (_ : (Lit.int .i64 r).wf = true) (_ : (Lit.int .i64 c).wf = true) (la : Nat) (xs : List Int) (hla : la ≤ 1048576) (_ : ∀ n ∈ xs, (Lit.int .i64 n).wf = true) (lb : Nat) (ys : List Int) (hlb : lb ≤ 1048576) (_ : ∀ n ∈ ys, (Lit.int .i64 n).wf = true) :
    ∃ (F0 F1 F2 F3 : Int) (F4 : Bool), ∀ (a : Option Addr) (ca : Nat) (b : Option Addr) (cb : Nat) (w : World), SlV (Value.int .i64) w a la xs → SlV (Value.int .i64) w b lb ys →
      Calls Try.prog 69 #[.agg #[.int .i64 r, .int .i64 c, .slice a la ca, .slice b lb cb]] w (RetV (.tuple #[.int .i64 F0, .int .i64 F1, .int .i64 F2, .int .i64 F3, .bool F4]) w) ∧ Calls Try.prog 70 #[.agg #[.int .i64 r, .int .i64 c, .slice a la ca, .slice b lb cb]] w (RetV (.tuple #[.int .i64 F0, .int .i64 F1, .int .i64 F2, .int .i64 F3, .bool F4]) w) :=
  ⟨_, _, _, _, _, fun a ca b cb w h g => ⟨spTwo r c a la ca xs b lb cb ys w h g hla hlb, imTwo r c a la ca xs b lb cb ys w h g hla hlb⟩⟩
end TryWalk
end Go.Proofs.Ytlbmmecjiopbbaa
