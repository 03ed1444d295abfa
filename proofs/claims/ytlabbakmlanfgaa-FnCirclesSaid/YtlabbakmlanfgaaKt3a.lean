/- Tenths of decibels of 64ths: the table is reckoned, part 1 of 5. No condition. -/
import Derived.Test.YtlabbakmlanfgaaKt2
namespace Go.Proofs.Ytlabbakmlanfgaa
open Go.RowKit Flo Iee Kf Ieee
namespace TryWalk
theorem chunk0 : (List.range 1000).all (chunk 0) = true := by decide +kernel
theorem chunk1 : (List.range 1000).all (chunk 1) = true := by decide +kernel
theorem chunk2 : (List.range 1000).all (chunk 2) = true := by decide +kernel
theorem chunk3 : (List.range 1000).all (chunk 3) = true := by decide +kernel
end TryWalk
end Go.Proofs.Ytlabbakmlanfgaa
