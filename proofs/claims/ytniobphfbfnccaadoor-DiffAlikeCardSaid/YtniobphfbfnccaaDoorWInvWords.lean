-- Out of the kit's print words (print.sh), by wip/xtrim.py: what this seat's texts come to.
import Derived.Test.YtniobphfbfnccaaDoorWInv
import Derived.Test.YtniobphfbfnccaaDoorWFootNe
namespace Go.Proofs.YtniobphfbfnccaaDoorW.PrintWords
open Go.RowKit
end Go.Proofs.YtniobphfbfnccaaDoorW.PrintWords
namespace Go.Proofs.YtniobphfbfnccaaDoorW.PrintLast
section
variable {ops : Array Oper} {a : Act} {o og : Oper} {g : Nat} {t : Tmp} {u : Bool}
end
end Go.Proofs.YtniobphfbfnccaaDoorW.PrintLast
