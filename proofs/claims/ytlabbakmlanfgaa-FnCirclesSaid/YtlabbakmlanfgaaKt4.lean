/- Tenths of decibels of 64ths: the products' pairs. No condition. -/
import Derived.Test.YtlabbakmlanfgaaKt2
namespace Go.Proofs.Ytlabbakmlanfgaa
open Go.RowKit Flo Iee Kf Ieee
namespace TryWalk
theorem okPrs_all : (List.range 200).all okPrs = true := by decide +kernel
end TryWalk
end Go.Proofs.Ytlabbakmlanfgaa
