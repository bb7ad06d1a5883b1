/- Fractions made of two numbers, of the program; the price of units. No conditions. -/
import Derived.Test.YtdccdoodmiihbaaDoorFrac2
namespace Go.Proofs.YtdccdoodmiihbaaDoor
open Go.RowKit


def unitsL (n d : Int) : Option Fr := if (inB n 0 1000000000 && inB d 1 100000) = true then redL n d else none
end Go.Proofs.YtdccdoodmiihbaaDoor
