-- Out of the kit's print words (print.sh), by wip/xtrim.py: what this seat's texts come to.
import Derived.Test.YthghpmnbnfbheaaWTab
/-! ### 56. Four, five, six operations that may come up next, in any order -/
namespace Go.Proofs.YthghpmnbnfbheaaW.PrintLast
section
variable {P : Program} {ops : Array Oper} {Q : Exit → Act → World → Prop} {md : Region.Mode} {S : World → Prop} {ds : List Nat} {T : Bool × List (List Nat × List Nat)}
end
end Go.Proofs.YthghpmnbnfbheaaW.PrintLast
