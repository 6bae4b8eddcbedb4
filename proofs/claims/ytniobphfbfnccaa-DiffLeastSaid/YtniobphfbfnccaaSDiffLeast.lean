import Derived.Test.YtniobphfbfnccaaPAllx10
namespace Go.Proofs.Ytniobphfbfnccaa.PAll
open Go.RowKit Go.Proofs.YtniobphfbfnccaaW.PrintWords Go.Proofs.YtniobphfbfnccaaW.PrintLast Go.Proofs.YtniobphfbfnccaaW.PrintMore
/-- The one statement without Go. -/
def cortegelaw4_DiffLeast.Pure : Prop := ∀ (l0 : List ByteArray) (l1 : List ByteArray) (a2 : Int), l0.length * 16 ≤ 140737488351232 → (∀ s ∈ l0, s.size ≤ maxLen) → l1.length * 16 ≤ 140737488351232 → (∀ s ∈ l1, s.size ≤ maxLen) → (Lit.int .i64 a2).wf = true → ∃ k, cortegelaw4_DiffLeast.f k l0 l1 a2 = some true
end Go.Proofs.Ytniobphfbfnccaa.PAll
