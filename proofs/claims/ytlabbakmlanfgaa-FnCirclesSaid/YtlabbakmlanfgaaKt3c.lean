/- Tenths of decibels of 64ths: the table is reckoned, part 3 of 5. No condition. -/
import Derived.Test.YtlabbakmlanfgaaKt2
namespace Go.Proofs.Ytlabbakmlanfgaa
open Go.RowKit Flo Iee Kf Ieee
namespace TryWalk
theorem chunk8 : (List.range 1000).all (chunk 8) = true := by decide +kernel
theorem chunk9 : (List.range 1000).all (chunk 9) = true := by decide +kernel
theorem chunk10 : (List.range 1000).all (chunk 10) = true := by decide +kernel
theorem chunk11 : (List.range 1000).all (chunk 11) = true := by decide +kernel
end TryWalk
end Go.Proofs.Ytlabbakmlanfgaa
