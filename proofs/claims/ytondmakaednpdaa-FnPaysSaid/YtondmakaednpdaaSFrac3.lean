/- Fractions made of two numbers, their products and sums, of the reference. No conditions. -/
import Derived.Test.YtondmakaednpdaaSFrac2
import Derived.Test.YtondmakaednpdaaFrac3
import Derived.Deep.RegionHeld3
namespace Go.Proofs.Ytondmakaednpdaa
open Go.RowKit



end Go.Proofs.Ytondmakaednpdaa
