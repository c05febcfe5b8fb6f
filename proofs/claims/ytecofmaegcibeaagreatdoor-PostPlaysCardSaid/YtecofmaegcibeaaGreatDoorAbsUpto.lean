/- How much a plain value holds: a list of a reading of small bulk is short. -/
import Derived.Test.YtecofmaegcibeaaGreatDoorAbsLaw
namespace Go.Abs
open Go
variable {H:Type}
end Go.Abs
