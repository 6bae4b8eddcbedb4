/-
  No cell of these rows narrows 'for every input' (looked for: loops, veiled, ifaces, maps, wideKeys, modest, calm, conditions, laid).
  DERIVED. THE GIVEN ROWS OF THIS SEAT. 5 by the template 'for every input the law returns true; each argument reads behind the call as it read before'; 0 by the template 'total and deterministic' (their statements: YtgcjejepahdjgaaTotals.lean).
  GIVEN WITH THE SEED: the statements are not yours to turn. If you find one false, say at which input.
  Laid BY PROGRAM, IN A SANDBOX (cutbox-rows.mjs): the forced cells as the released guide's own fill.sh prints them over the translation f77e45100837877e… (all of the seat's roots in one cut). By AI agents, Wed Nov 11 2026. No macro, syntax, notation, axiom, sorry.
-/
import Derived.Test.YtgcjejepahdjgaaChecked
import GoSem.Claim
import GoSem.ClaimJoined
import GoSem.ClaimMapViews
import Derived.JoinedTies
import Derived.KernelRfl
namespace Go.Proofs.Ytgcjejepahdjgaa
/- THE CELL 'sum', in the pinned program and in every row, IS THE sha256 OF THE DUMP (.gsa) THAT YtgcjejepahdjgaaProg.lean LOADS. Nothing in Lean hashes anything: it is a label: what it is worth is what the hold of that sum in a sandbox is worth. -/
noncomputable def Try.pinned : Pinned := { name := "ytgcjejepahdjgaa", sum := "f77e45100837877ea23b2f4414109afac953505e259d990b1c589e2ea4dbc05b", checked := Try.checked }
namespace Rows
def none {H : Type} : Left H := { results := [], args := [] }

/-- 'cortegelaw5.ThreeTells': WHATEVER THE INPUT: true; the input reads as it did. -/
def threeTellsSpec : ChangeSpec := { name := "threeTells", fn := fun _ => fun
  | [d1, d2, d3] => { results := [.lit (.bool true)], args := [d1, d2, d3] }
  | _ => none }
def threeTellsRow : OpenClaim := { program := "ytgcjejepahdjgaa", sum := "f77e45100837877ea23b2f4414109afac953505e259d990b1c589e2ea4dbc05b", func := "cortege/cortegelaw5.ThreeTells", spec := "threeTells", unfollowed := true, recurses := true, apart := false }
def ThreeTellsSaid : Prop := threeTellsRow.holds Try.pinned (OpenSpec.ofChange threeTellsSpec)

/-- ITS FALSE NEIGHBOUR: 'it returns false'. Refute it at one input. -/
def threeTellsWrong : ChangeSpec := { name := "threeTells", fn := fun _ => fun
  | [d1, d2, d3] => { results := [.lit (.bool false)], args := [d1, d2, d3] }
  | _ => none }
def ThreeTellsWrongFalsely : Prop := threeTellsRow.holds Try.pinned (OpenSpec.ofChange threeTellsWrong)

/-- 'cortegelaw5.ThreeWhole': WHATEVER THE INPUT: true; the input reads as it did. -/
def threeWholeSpec : ChangeSpec := { name := "threeWhole", fn := fun _ => fun
  | [d1, d2, d3] => { results := [.lit (.bool true)], args := [d1, d2, d3] }
  | _ => none }
def threeWholeRow : OpenClaim := { program := "ytgcjejepahdjgaa", sum := "f77e45100837877ea23b2f4414109afac953505e259d990b1c589e2ea4dbc05b", func := "cortege/cortegelaw5.ThreeWhole", spec := "threeWhole", unfollowed := true, recurses := true, apart := false }
def ThreeWholeSaid : Prop := threeWholeRow.holds Try.pinned (OpenSpec.ofChange threeWholeSpec)

/-- ITS FALSE NEIGHBOUR: 'it returns false'. Refute it at one input. -/
def threeWholeWrong : ChangeSpec := { name := "threeWhole", fn := fun _ => fun
  | [d1, d2, d3] => { results := [.lit (.bool false)], args := [d1, d2, d3] }
  | _ => none }
def ThreeWholeWrongFalsely : Prop := threeWholeRow.holds Try.pinned (OpenSpec.ofChange threeWholeWrong)

/-- 'cortegelaw5.ThreeSides': WHATEVER THE INPUT: true; the input reads as it did. -/
def threeSidesSpec : ChangeSpec := { name := "threeSides", fn := fun _ => fun
  | [d1, d2, d3] => { results := [.lit (.bool true)], args := [d1, d2, d3] }
  | _ => none }
def threeSidesRow : OpenClaim := { program := "ytgcjejepahdjgaa", sum := "f77e45100837877ea23b2f4414109afac953505e259d990b1c589e2ea4dbc05b", func := "cortege/cortegelaw5.ThreeSides", spec := "threeSides", unfollowed := true, recurses := true, apart := false }
def ThreeSidesSaid : Prop := threeSidesRow.holds Try.pinned (OpenSpec.ofChange threeSidesSpec)

/-- ITS FALSE NEIGHBOUR: 'it returns false'. Refute it at one input. -/
def threeSidesWrong : ChangeSpec := { name := "threeSides", fn := fun _ => fun
  | [d1, d2, d3] => { results := [.lit (.bool false)], args := [d1, d2, d3] }
  | _ => none }
def ThreeSidesWrongFalsely : Prop := threeSidesRow.holds Try.pinned (OpenSpec.ofChange threeSidesWrong)

/-- 'cortegelaw5.ThreeApart': WHATEVER THE INPUT: true; the input reads as it did. -/
def threeApartSpec : ChangeSpec := { name := "threeApart", fn := fun _ => fun
  | [d1, d2, d3] => { results := [.lit (.bool true)], args := [d1, d2, d3] }
  | _ => none }
def threeApartRow : OpenClaim := { program := "ytgcjejepahdjgaa", sum := "f77e45100837877ea23b2f4414109afac953505e259d990b1c589e2ea4dbc05b", func := "cortege/cortegelaw5.ThreeApart", spec := "threeApart", unfollowed := true, recurses := true, apart := false }
def ThreeApartSaid : Prop := threeApartRow.holds Try.pinned (OpenSpec.ofChange threeApartSpec)

/-- ITS FALSE NEIGHBOUR: 'it returns false'. Refute it at one input. -/
def threeApartWrong : ChangeSpec := { name := "threeApart", fn := fun _ => fun
  | [d1, d2, d3] => { results := [.lit (.bool false)], args := [d1, d2, d3] }
  | _ => none }
def ThreeApartWrongFalsely : Prop := threeApartRow.holds Try.pinned (OpenSpec.ofChange threeApartWrong)

/-- 'cortegelaw5.ThreeAhead': WHATEVER THE INPUT: true; the input reads as it did. -/
def threeAheadSpec : ChangeSpec := { name := "threeAhead", fn := fun _ => fun
  | [d1, d2, d3, d4] => { results := [.lit (.bool true)], args := [d1, d2, d3, d4] }
  | _ => none }
def threeAheadRow : OpenClaim := { program := "ytgcjejepahdjgaa", sum := "f77e45100837877ea23b2f4414109afac953505e259d990b1c589e2ea4dbc05b", func := "cortege/cortegelaw5.ThreeAhead", spec := "threeAhead", unfollowed := true, recurses := true, apart := false }
def ThreeAheadSaid : Prop := threeAheadRow.holds Try.pinned (OpenSpec.ofChange threeAheadSpec)

/-- ITS FALSE NEIGHBOUR: 'it returns false'. Refute it at one input. -/
def threeAheadWrong : ChangeSpec := { name := "threeAhead", fn := fun _ => fun
  | [d1, d2, d3, d4] => { results := [.lit (.bool false)], args := [d1, d2, d3, d4] }
  | _ => none }
def ThreeAheadWrongFalsely : Prop := threeAheadRow.holds Try.pinned (OpenSpec.ofChange threeAheadWrong)

/- THE SECOND FORM. 'bulk': how many values and letters a reading holds, each counted each time it is reached (what is shared counts as often as it is met; a slice's spare places count too). A statement '..UptoSaid' is the law's where the arguments, and the package variables that the reading takes, are together of bulk at most 1048576: NARROWER than '..Said'. Prove '..Said' where nothing that the law and all that it calls make is longer than what came in: it says more and counts as full. Else prove '..UptoSaid'. A law counts once. -/
mutual
def uptoBulk {H : Type} : DataW H → Nat
  | .lit (.string bytes) => bytes.length + 1
  | .lit _ => 1
  | .nil => 1
  | .ptr d => uptoBulk d + 1
  | .slice elems spare => uptoBulkAll elems + uptoBulkAll spare + 1
  | .agg parts => uptoBulkAll parts + 1
  | .iface _ d => uptoBulk d + 1
  | .map entries => uptoBulkEntries entries + 1
  | .held _ => 1
def uptoBulkAll {H : Type} : List (DataW H) → Nat
  | [] => 0
  | d :: r => uptoBulk d + uptoBulkAll r
def uptoBulkEntries {H : Type} : List (Lit × DataW H) → Nat
  | [] => 0
  | x :: r => uptoBulkEntry x + uptoBulkEntries r
def uptoBulkEntry {H : Type} : Lit × DataW H → Nat
  | (.string bytes, d) => bytes.length + uptoBulk d + 1
  | (_, d) => uptoBulk d + 1
 end
def uptoSmall : (H : Type) → List (DataW H) → Bool := fun _ ds => decide (uptoBulkAll ds ≤ 1048576)
def OpenSpec.upto (s : _root_.Go.ChangeSpec) : _root_.Go.OpenSpec := { _root_.Go.OpenSpec.ofChange s with cond := some uptoSmall }

/-- 'cortegelaw5.ThreeTells', WHERE WHAT IT READS IS OF BULK AT MOST 1048576: true; the input reads as it did. -/
def threeTellsUptoRow : OpenClaim := { program := "ytgcjejepahdjgaa", sum := "f77e45100837877ea23b2f4414109afac953505e259d990b1c589e2ea4dbc05b", func := "cortege/cortegelaw5.ThreeTells", spec := "threeTells", unfollowed := true, recurses := true, apart := false, narrowed := true }
def ThreeTellsUptoSaid : Prop := threeTellsUptoRow.holds Try.pinned (OpenSpec.upto threeTellsSpec)

/-- 'cortegelaw5.ThreeWhole', WHERE WHAT IT READS IS OF BULK AT MOST 1048576: true; the input reads as it did. -/
def threeWholeUptoRow : OpenClaim := { program := "ytgcjejepahdjgaa", sum := "f77e45100837877ea23b2f4414109afac953505e259d990b1c589e2ea4dbc05b", func := "cortege/cortegelaw5.ThreeWhole", spec := "threeWhole", unfollowed := true, recurses := true, apart := false, narrowed := true }
def ThreeWholeUptoSaid : Prop := threeWholeUptoRow.holds Try.pinned (OpenSpec.upto threeWholeSpec)

/-- 'cortegelaw5.ThreeSides', WHERE WHAT IT READS IS OF BULK AT MOST 1048576: true; the input reads as it did. -/
def threeSidesUptoRow : OpenClaim := { program := "ytgcjejepahdjgaa", sum := "f77e45100837877ea23b2f4414109afac953505e259d990b1c589e2ea4dbc05b", func := "cortege/cortegelaw5.ThreeSides", spec := "threeSides", unfollowed := true, recurses := true, apart := false, narrowed := true }
def ThreeSidesUptoSaid : Prop := threeSidesUptoRow.holds Try.pinned (OpenSpec.upto threeSidesSpec)

/-- 'cortegelaw5.ThreeApart', WHERE WHAT IT READS IS OF BULK AT MOST 1048576: true; the input reads as it did. -/
def threeApartUptoRow : OpenClaim := { program := "ytgcjejepahdjgaa", sum := "f77e45100837877ea23b2f4414109afac953505e259d990b1c589e2ea4dbc05b", func := "cortege/cortegelaw5.ThreeApart", spec := "threeApart", unfollowed := true, recurses := true, apart := false, narrowed := true }
def ThreeApartUptoSaid : Prop := threeApartUptoRow.holds Try.pinned (OpenSpec.upto threeApartSpec)

/-- 'cortegelaw5.ThreeAhead', WHERE WHAT IT READS IS OF BULK AT MOST 1048576: true; the input reads as it did. -/
def threeAheadUptoRow : OpenClaim := { program := "ytgcjejepahdjgaa", sum := "f77e45100837877ea23b2f4414109afac953505e259d990b1c589e2ea4dbc05b", func := "cortege/cortegelaw5.ThreeAhead", spec := "threeAhead", unfollowed := true, recurses := true, apart := false, narrowed := true }
def ThreeAheadUptoSaid : Prop := threeAheadUptoRow.holds Try.pinned (OpenSpec.upto threeAheadSpec)

end Rows
end Go.Proofs.Ytgcjejepahdjgaa
