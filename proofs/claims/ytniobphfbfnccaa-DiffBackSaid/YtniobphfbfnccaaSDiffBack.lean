import Derived.Test.YtniobphfbfnccaaPAllx9
namespace Go.Proofs.Ytniobphfbfnccaa.PAll
open Go.RowKit Go.Proofs.YtniobphfbfnccaaW.PrintWords Go.Proofs.YtniobphfbfnccaaW.PrintLast Go.Proofs.YtniobphfbfnccaaW.PrintMore
/-- The one statement without Go. -/
def cortegelaw4_DiffBack.Pure : Prop := ∀ (l0 : List ByteArray) (l1 : List ByteArray), l0.length * 16 ≤ 140737488351232 → (∀ s ∈ l0, s.size ≤ maxLen) → l1.length * 16 ≤ 140737488351232 → (∀ s ∈ l1, s.size ≤ maxLen) → ∃ k, cortegelaw4_DiffBack.f k l0 l1 = some true
end Go.Proofs.Ytniobphfbfnccaa.PAll
