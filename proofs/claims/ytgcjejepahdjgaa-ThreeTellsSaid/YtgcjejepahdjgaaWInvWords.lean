-- Out of the kit's print words (print.sh), by wip/xtrim.py: what this seat's texts come to.
import Derived.Test.YtgcjejepahdjgaaWInv
import Derived.Test.YtgcjejepahdjgaaWFootNe
namespace Go.Proofs.YtgcjejepahdjgaaW.PrintWords
open Go.RowKit
end Go.Proofs.YtgcjejepahdjgaaW.PrintWords
namespace Go.Proofs.YtgcjejepahdjgaaW.PrintLast
section
variable {ops : Array Oper} {a : Act} {o og : Oper} {g : Nat} {t : Tmp} {u : Bool}
end
end Go.Proofs.YtgcjejepahdjgaaW.PrintLast
