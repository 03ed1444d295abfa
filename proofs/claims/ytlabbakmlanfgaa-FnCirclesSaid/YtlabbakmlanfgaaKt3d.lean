/- Tenths of decibels of 64ths: the table is reckoned, part 4 of 5. No condition. -/
import Derived.Test.YtlabbakmlanfgaaKt2
namespace Go.Proofs.Ytlabbakmlanfgaa
open Go.RowKit Flo Iee Kf Ieee
namespace TryWalk
theorem chunk12 : (List.range 1000).all (chunk 12) = true := by decide +kernel
theorem chunk13 : (List.range 1000).all (chunk 13) = true := by decide +kernel
theorem chunk14 : (List.range 1000).all (chunk 14) = true := by decide +kernel
theorem chunk15 : (List.range 1000).all (chunk 15) = true := by decide +kernel
end TryWalk
end Go.Proofs.Ytlabbakmlanfgaa
