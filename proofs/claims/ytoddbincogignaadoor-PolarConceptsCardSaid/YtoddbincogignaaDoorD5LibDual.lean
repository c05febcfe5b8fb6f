/- Lemmas on functions of the program, by name: dual. -/
import Derived.Test.YtoddbincogignaaDoorD5Funs
import Derived.Test.YtoddbincogignaaDoorAbsSums
import Derived.Test.YtoddbincogignaaDoorD5LibOrder2
namespace Go.Proofs.Tryd
open Go Go.Abs


/-- For each element those below it. -/
def downW (n : Nat) (ws : List Nat) : List Nat := tab n fun j => wordOf n fun i => below ws i j

end Go.Proofs.Tryd
