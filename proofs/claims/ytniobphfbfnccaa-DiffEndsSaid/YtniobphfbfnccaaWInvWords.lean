-- Out of the kit's print words (print.sh), by wip/xtrim.py: what this seat's texts come to.
import Derived.Test.YtniobphfbfnccaaWInv
import Derived.Test.YtniobphfbfnccaaWFootNe
namespace Go.Proofs.YtniobphfbfnccaaW.PrintWords
open Go.RowKit
end Go.Proofs.YtniobphfbfnccaaW.PrintWords
namespace Go.Proofs.YtniobphfbfnccaaW.PrintLast
section
variable {ops : Array Oper} {a : Act} {o og : Oper} {g : Nat} {t : Tmp} {u : Bool}
end
end Go.Proofs.YtniobphfbfnccaaW.PrintLast
