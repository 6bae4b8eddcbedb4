-- Out of the kit's print words (print.sh), by wip/xtrim.py: what this seat's texts come to.
import Derived.Test.YthghpmnbnfbheaaWInv
import Derived.Test.YthghpmnbnfbheaaWFootNe
namespace Go.Proofs.YthghpmnbnfbheaaW.PrintWords
open Go.RowKit
end Go.Proofs.YthghpmnbnfbheaaW.PrintWords
namespace Go.Proofs.YthghpmnbnfbheaaW.PrintLast
section
variable {ops : Array Oper} {a : Act} {o og : Oper} {g : Nat} {t : Tmp} {u : Bool}
end
end Go.Proofs.YthghpmnbnfbheaaW.PrintLast
