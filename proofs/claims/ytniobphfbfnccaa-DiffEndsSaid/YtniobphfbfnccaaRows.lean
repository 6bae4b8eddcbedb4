/-
  No cell of these rows narrows 'for every input' (looked for: loops, veiled, ifaces, maps, wideKeys, modest, calm, conditions, laid).
  DERIVED. THE GIVEN ROWS OF THIS SEAT. 5 by the template 'for every input the law returns true; each argument reads behind the call as it read before'; 0 by the template 'total and deterministic' (their statements: YtniobphfbfnccaaTotals.lean).
  GIVEN WITH THE SEED: the statements are not yours to turn. If you find one false, say at which input.
  Laid BY PROGRAM, IN A SANDBOX (cutbox-rows.mjs): the forced cells as the released guide's own fill.sh prints them over the translation 7ba71b79cdb9cce8… (all of the seat's roots in one cut). By AI agents, Wed Nov 11 2026. No macro, syntax, notation, axiom, sorry.
-/
import Derived.Test.YtniobphfbfnccaaChecked
import GoSem.Claim
import GoSem.ClaimJoined
import GoSem.ClaimMapViews
import Derived.JoinedTies
import Derived.KernelRfl
namespace Go.Proofs.Ytniobphfbfnccaa
/- THE CELL 'sum', in the pinned program and in every row, IS THE sha256 OF THE DUMP (.gsa) THAT YtniobphfbfnccaaProg.lean LOADS. Nothing in Lean hashes anything: it is a label: what it is worth is what the hold of that sum in a sandbox is worth. -/
noncomputable def Try.pinned : Pinned := { name := "ytniobphfbfnccaa", sum := "7ba71b79cdb9cce8d4a54310a8834f86694dd5d79d11ceb27c1fe8e4373d92da", checked := Try.checked }
namespace Rows
def none {H : Type} : Left H := { results := [], args := [] }

/-- 'cortegelaw4.DiffTells': WHATEVER THE INPUT: true; the input reads as it did. -/
def diffTellsSpec : ChangeSpec := { name := "diffTells", fn := fun _ => fun
  | [d1, d2, d3] => { results := [.lit (.bool true)], args := [d1, d2, d3] }
  | _ => none }
def diffTellsRow : OpenClaim := { program := "ytniobphfbfnccaa", sum := "7ba71b79cdb9cce8d4a54310a8834f86694dd5d79d11ceb27c1fe8e4373d92da", func := "cortege/cortegelaw4.DiffTells", spec := "diffTells", apart := false }
def DiffTellsSaid : Prop := diffTellsRow.holds Try.pinned (OpenSpec.ofChange diffTellsSpec)

/-- ITS FALSE NEIGHBOUR: 'it returns false'. Refute it at one input. -/
def diffTellsWrong : ChangeSpec := { name := "diffTells", fn := fun _ => fun
  | [d1, d2, d3] => { results := [.lit (.bool false)], args := [d1, d2, d3] }
  | _ => none }
def DiffTellsWrongFalsely : Prop := diffTellsRow.holds Try.pinned (OpenSpec.ofChange diffTellsWrong)

/-- 'cortegelaw4.DiffBack': WHATEVER THE INPUT: true; the input reads as it did. -/
def diffBackSpec : ChangeSpec := { name := "diffBack", fn := fun _ => fun
  | [d1, d2] => { results := [.lit (.bool true)], args := [d1, d2] }
  | _ => none }
def diffBackRow : OpenClaim := { program := "ytniobphfbfnccaa", sum := "7ba71b79cdb9cce8d4a54310a8834f86694dd5d79d11ceb27c1fe8e4373d92da", func := "cortege/cortegelaw4.DiffBack", spec := "diffBack", apart := false }
def DiffBackSaid : Prop := diffBackRow.holds Try.pinned (OpenSpec.ofChange diffBackSpec)

/-- ITS FALSE NEIGHBOUR: 'it returns false'. Refute it at one input. -/
def diffBackWrong : ChangeSpec := { name := "diffBack", fn := fun _ => fun
  | [d1, d2] => { results := [.lit (.bool false)], args := [d1, d2] }
  | _ => none }
def DiffBackWrongFalsely : Prop := diffBackRow.holds Try.pinned (OpenSpec.ofChange diffBackWrong)

/-- 'cortegelaw4.DiffLeast': WHATEVER THE INPUT: true; the input reads as it did. -/
def diffLeastSpec : ChangeSpec := { name := "diffLeast", fn := fun _ => fun
  | [d1, d2, d3] => { results := [.lit (.bool true)], args := [d1, d2, d3] }
  | _ => none }
def diffLeastRow : OpenClaim := { program := "ytniobphfbfnccaa", sum := "7ba71b79cdb9cce8d4a54310a8834f86694dd5d79d11ceb27c1fe8e4373d92da", func := "cortege/cortegelaw4.DiffLeast", spec := "diffLeast", apart := false }
def DiffLeastSaid : Prop := diffLeastRow.holds Try.pinned (OpenSpec.ofChange diffLeastSpec)

/-- ITS FALSE NEIGHBOUR: 'it returns false'. Refute it at one input. -/
def diffLeastWrong : ChangeSpec := { name := "diffLeast", fn := fun _ => fun
  | [d1, d2, d3] => { results := [.lit (.bool false)], args := [d1, d2, d3] }
  | _ => none }
def DiffLeastWrongFalsely : Prop := diffLeastRow.holds Try.pinned (OpenSpec.ofChange diffLeastWrong)

/-- 'cortegelaw4.DiffGreat': WHATEVER THE INPUT: true; the input reads as it did. -/
def diffGreatSpec : ChangeSpec := { name := "diffGreat", fn := fun _ => fun
  | [d] => { results := [.lit (.bool true)], args := [d] }
  | _ => none }
def diffGreatRow : OpenClaim := { program := "ytniobphfbfnccaa", sum := "7ba71b79cdb9cce8d4a54310a8834f86694dd5d79d11ceb27c1fe8e4373d92da", func := "cortege/cortegelaw4.DiffGreat", spec := "diffGreat", apart := false }
def DiffGreatSaid : Prop := diffGreatRow.holds Try.pinned (OpenSpec.ofChange diffGreatSpec)

/-- ITS FALSE NEIGHBOUR: 'it returns false'. Refute it at one input. -/
def diffGreatWrong : ChangeSpec := { name := "diffGreat", fn := fun _ => fun
  | [d] => { results := [.lit (.bool false)], args := [d] }
  | _ => none }
def DiffGreatWrongFalsely : Prop := diffGreatRow.holds Try.pinned (OpenSpec.ofChange diffGreatWrong)

/-- 'cortegelaw4.DiffEnds': WHATEVER THE INPUT: true; the input reads as it did. -/
def diffEndsSpec : ChangeSpec := { name := "diffEnds", fn := fun _ => fun
  | [d1, d2, d3, d4] => { results := [.lit (.bool true)], args := [d1, d2, d3, d4] }
  | _ => none }
def diffEndsRow : OpenClaim := { program := "ytniobphfbfnccaa", sum := "7ba71b79cdb9cce8d4a54310a8834f86694dd5d79d11ceb27c1fe8e4373d92da", func := "cortege/cortegelaw4.DiffEnds", spec := "diffEnds", apart := false }
def DiffEndsSaid : Prop := diffEndsRow.holds Try.pinned (OpenSpec.ofChange diffEndsSpec)

/-- ITS FALSE NEIGHBOUR: 'it returns false'. Refute it at one input. -/
def diffEndsWrong : ChangeSpec := { name := "diffEnds", fn := fun _ => fun
  | [d1, d2, d3, d4] => { results := [.lit (.bool false)], args := [d1, d2, d3, d4] }
  | _ => none }
def DiffEndsWrongFalsely : Prop := diffEndsRow.holds Try.pinned (OpenSpec.ofChange diffEndsWrong)

/- THE SECOND FORM. 'bulk': how many values and letters a reading holds, each counted each time it is reached (what is shared counts as often as it is met; a slice's spare places count too). A statement '..UptoSaid' is the law's where the arguments, and the package variables that the reading takes, are together of bulk at most 1048576: NARROWER than '..Said'. Prove '..Said' where nothing that the law and all that it calls make is longer than what came in: it says more and counts as full. Else prove '..UptoSaid'. A law counts once. -/
mutual
def uptoBulk {H : Type} : DataW H → Nat
  | .lit (.string bytes) => bytes.length + 1
  | .lit _ => 1
  | .nil => 1
  | .ptr d => uptoBulk d + 1
  | .slice elems spare => uptoBulkAll elems + uptoBulkAll spare + 1
  | .agg parts => uptoBulkAll parts + 1
  | .iface _ d => uptoBulk d + 1
  | .map entries => uptoBulkEntries entries + 1
  | .held _ => 1
def uptoBulkAll {H : Type} : List (DataW H) → Nat
  | [] => 0
  | d :: r => uptoBulk d + uptoBulkAll r
def uptoBulkEntries {H : Type} : List (Lit × DataW H) → Nat
  | [] => 0
  | x :: r => uptoBulkEntry x + uptoBulkEntries r
def uptoBulkEntry {H : Type} : Lit × DataW H → Nat
  | (.string bytes, d) => bytes.length + uptoBulk d + 1
  | (_, d) => uptoBulk d + 1
 end
def uptoSmall : (H : Type) → List (DataW H) → Bool := fun _ ds => decide (uptoBulkAll ds ≤ 1048576)
def OpenSpec.upto (s : _root_.Go.ChangeSpec) : _root_.Go.OpenSpec := { _root_.Go.OpenSpec.ofChange s with cond := some uptoSmall }

/-- 'cortegelaw4.DiffTells', WHERE WHAT IT READS IS OF BULK AT MOST 1048576: true; the input reads as it did. -/
def diffTellsUptoRow : OpenClaim := { program := "ytniobphfbfnccaa", sum := "7ba71b79cdb9cce8d4a54310a8834f86694dd5d79d11ceb27c1fe8e4373d92da", func := "cortege/cortegelaw4.DiffTells", spec := "diffTells", apart := false, narrowed := true }
def DiffTellsUptoSaid : Prop := diffTellsUptoRow.holds Try.pinned (OpenSpec.upto diffTellsSpec)

/-- 'cortegelaw4.DiffBack', WHERE WHAT IT READS IS OF BULK AT MOST 1048576: true; the input reads as it did. -/
def diffBackUptoRow : OpenClaim := { program := "ytniobphfbfnccaa", sum := "7ba71b79cdb9cce8d4a54310a8834f86694dd5d79d11ceb27c1fe8e4373d92da", func := "cortege/cortegelaw4.DiffBack", spec := "diffBack", apart := false, narrowed := true }
def DiffBackUptoSaid : Prop := diffBackUptoRow.holds Try.pinned (OpenSpec.upto diffBackSpec)

/-- 'cortegelaw4.DiffLeast', WHERE WHAT IT READS IS OF BULK AT MOST 1048576: true; the input reads as it did. -/
def diffLeastUptoRow : OpenClaim := { program := "ytniobphfbfnccaa", sum := "7ba71b79cdb9cce8d4a54310a8834f86694dd5d79d11ceb27c1fe8e4373d92da", func := "cortege/cortegelaw4.DiffLeast", spec := "diffLeast", apart := false, narrowed := true }
def DiffLeastUptoSaid : Prop := diffLeastUptoRow.holds Try.pinned (OpenSpec.upto diffLeastSpec)

/-- 'cortegelaw4.DiffGreat', WHERE WHAT IT READS IS OF BULK AT MOST 1048576: true; the input reads as it did. -/
def diffGreatUptoRow : OpenClaim := { program := "ytniobphfbfnccaa", sum := "7ba71b79cdb9cce8d4a54310a8834f86694dd5d79d11ceb27c1fe8e4373d92da", func := "cortege/cortegelaw4.DiffGreat", spec := "diffGreat", apart := false, narrowed := true }
def DiffGreatUptoSaid : Prop := diffGreatUptoRow.holds Try.pinned (OpenSpec.upto diffGreatSpec)

/-- 'cortegelaw4.DiffEnds', WHERE WHAT IT READS IS OF BULK AT MOST 1048576: true; the input reads as it did. -/
def diffEndsUptoRow : OpenClaim := { program := "ytniobphfbfnccaa", sum := "7ba71b79cdb9cce8d4a54310a8834f86694dd5d79d11ceb27c1fe8e4373d92da", func := "cortege/cortegelaw4.DiffEnds", spec := "diffEnds", apart := false, narrowed := true }
def DiffEndsUptoSaid : Prop := diffEndsUptoRow.holds Try.pinned (OpenSpec.upto diffEndsSpec)

end Rows
end Go.Proofs.Ytniobphfbfnccaa
