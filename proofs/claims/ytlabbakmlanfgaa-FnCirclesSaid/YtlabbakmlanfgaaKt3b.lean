/- Tenths of decibels of 64ths: the table is reckoned, part 2 of 5. No condition. -/
import Derived.Test.YtlabbakmlanfgaaKt2
namespace Go.Proofs.Ytlabbakmlanfgaa
open Go.RowKit Flo Iee Kf Ieee
namespace TryWalk
theorem chunk4 : (List.range 1000).all (chunk 4) = true := by decide +kernel
theorem chunk5 : (List.range 1000).all (chunk 5) = true := by decide +kernel
theorem chunk6 : (List.range 1000).all (chunk 6) = true := by decide +kernel
theorem chunk7 : (List.range 1000).all (chunk 7) = true := by decide +kernel
end TryWalk
end Go.Proofs.Ytlabbakmlanfgaa
