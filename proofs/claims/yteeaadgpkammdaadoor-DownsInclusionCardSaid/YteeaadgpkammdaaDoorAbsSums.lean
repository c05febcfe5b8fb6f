/- The engine, part 29: sums of whole numbers, wrapped and not; a table into which a word's bits are put. -/
import Derived.Test.YteeaadgpkammdaaDoorAbsStd
namespace Go.Abs
open Go
end Go.Abs
