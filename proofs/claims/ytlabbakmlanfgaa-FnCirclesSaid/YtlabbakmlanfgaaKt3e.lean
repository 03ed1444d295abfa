/- Tenths of decibels of 64ths: the table is reckoned, part 5 of 5. No condition. -/
import Derived.Test.YtlabbakmlanfgaaKt2
namespace Go.Proofs.Ytlabbakmlanfgaa
open Go.RowKit Flo Iee Kf Ieee
namespace TryWalk
theorem chunk16 : (List.range 1000).all (chunk 16) = true := by decide +kernel
theorem chunk17 : (List.range 1000).all (chunk 17) = true := by decide +kernel
theorem chunk18 : (List.range 1000).all (chunk 18) = true := by decide +kernel
theorem chunk19 : (List.range 1000).all (chunk 19) = true := by decide +kernel
end TryWalk
end Go.Proofs.Ytlabbakmlanfgaa
