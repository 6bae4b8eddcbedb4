/-
  No cell of these rows narrows 'for every input' (looked for: loops, veiled, ifaces, maps, wideKeys, modest, calm, conditions, laid).
  DERIVED. THE GIVEN ROWS OF THIS SEAT. 4 by the template 'for every input the law returns true; each argument reads behind the call as it read before'; 0 by the template 'total and deterministic' (their statements: YtnagjilogadinaaTotals.lean).
  GIVEN WITH THE SEED: the statements are not yours to turn. If you find one false, say at which input.
  Laid BY PROGRAM, IN A SANDBOX (cutbox-rows.mjs): the forced cells as the released guide's own fill.sh prints them over the translation e5f69e31092c811c… (all of the seat's roots in one cut). By AI agents, Wed Nov 11 2026. No macro, syntax, notation, axiom, sorry.
-/
import Derived.Test.YtnagjilogadinaaChecked
import GoSem.Claim
import GoSem.ClaimJoined
import GoSem.ClaimMapViews
import Derived.JoinedTies
import Derived.KernelRfl
namespace Go.Proofs.Ytnagjilogadinaa
/- THE CELL 'sum', in the pinned program and in every row, IS THE sha256 OF THE DUMP (.gsa) THAT YtnagjilogadinaaProg.lean LOADS. Nothing in Lean hashes anything: it is a label: what it is worth is what the hold of that sum in a sandbox is worth. -/
noncomputable def Try.pinned : Pinned := { name := "ytnagjilogadinaa", sum := "e5f69e31092c811cdc2bb25569b781e35347f3e9ba34d674c375d283d7d32abf", checked := Try.checked }
namespace Rows
def none {H : Type} : Left H := { results := [], args := [] }

/-- 'cortegelaw1.SeqLists': WHATEVER THE INPUT: true; the input reads as it did. -/
def seqListsSpec : ChangeSpec := { name := "seqLists", fn := fun _ => fun
  | [d1, d2] => { results := [.lit (.bool true)], args := [d1, d2] }
  | _ => none }
def seqListsRow : OpenClaim := { program := "ytnagjilogadinaa", sum := "e5f69e31092c811cdc2bb25569b781e35347f3e9ba34d674c375d283d7d32abf", func := "cortege/cortegelaw1.SeqLists", spec := "seqLists", unfollowed := true, recurses := true, apart := false }
def SeqListsSaid : Prop := seqListsRow.holds Try.pinned (OpenSpec.ofChange seqListsSpec)

/-- ITS FALSE NEIGHBOUR: 'it returns false'. Refute it at one input. -/
def seqListsWrong : ChangeSpec := { name := "seqLists", fn := fun _ => fun
  | [d1, d2] => { results := [.lit (.bool false)], args := [d1, d2] }
  | _ => none }
def SeqListsWrongFalsely : Prop := seqListsRow.holds Try.pinned (OpenSpec.ofChange seqListsWrong)

/-- 'cortegelaw1.SeqLazy': WHATEVER THE INPUT: true; the input reads as it did. -/
def seqLazySpec : ChangeSpec := { name := "seqLazy", fn := fun _ => fun
  | [d1, d2] => { results := [.lit (.bool true)], args := [d1, d2] }
  | _ => none }
def seqLazyRow : OpenClaim := { program := "ytnagjilogadinaa", sum := "e5f69e31092c811cdc2bb25569b781e35347f3e9ba34d674c375d283d7d32abf", func := "cortege/cortegelaw1.SeqLazy", spec := "seqLazy", unfollowed := true, recurses := true, apart := false }
def SeqLazySaid : Prop := seqLazyRow.holds Try.pinned (OpenSpec.ofChange seqLazySpec)

/-- ITS FALSE NEIGHBOUR: 'it returns false'. Refute it at one input. -/
def seqLazyWrong : ChangeSpec := { name := "seqLazy", fn := fun _ => fun
  | [d1, d2] => { results := [.lit (.bool false)], args := [d1, d2] }
  | _ => none }
def SeqLazyWrongFalsely : Prop := seqLazyRow.holds Try.pinned (OpenSpec.ofChange seqLazyWrong)

/-- 'cortegelaw1.SeqTakes': WHATEVER THE INPUT: true; the input reads as it did. -/
def seqTakesSpec : ChangeSpec := { name := "seqTakes", fn := fun _ => fun
  | [d1, d2, d3, d4, d5] => { results := [.lit (.bool true)], args := [d1, d2, d3, d4, d5] }
  | _ => none }
def seqTakesRow : OpenClaim := { program := "ytnagjilogadinaa", sum := "e5f69e31092c811cdc2bb25569b781e35347f3e9ba34d674c375d283d7d32abf", func := "cortege/cortegelaw1.SeqTakes", spec := "seqTakes", unfollowed := true, recurses := true, apart := false }
def SeqTakesSaid : Prop := seqTakesRow.holds Try.pinned (OpenSpec.ofChange seqTakesSpec)

/-- ITS FALSE NEIGHBOUR: 'it returns false'. Refute it at one input. -/
def seqTakesWrong : ChangeSpec := { name := "seqTakes", fn := fun _ => fun
  | [d1, d2, d3, d4, d5] => { results := [.lit (.bool false)], args := [d1, d2, d3, d4, d5] }
  | _ => none }
def SeqTakesWrongFalsely : Prop := seqTakesRow.holds Try.pinned (OpenSpec.ofChange seqTakesWrong)

/-- 'cortegelaw1.SeqNests': WHATEVER THE INPUT: true; the input reads as it did. -/
def seqNestsSpec : ChangeSpec := { name := "seqNests", fn := fun _ => fun
  | [d1, d2, d3, d4] => { results := [.lit (.bool true)], args := [d1, d2, d3, d4] }
  | _ => none }
def seqNestsRow : OpenClaim := { program := "ytnagjilogadinaa", sum := "e5f69e31092c811cdc2bb25569b781e35347f3e9ba34d674c375d283d7d32abf", func := "cortege/cortegelaw1.SeqNests", spec := "seqNests", unfollowed := true, recurses := true, apart := false }
def SeqNestsSaid : Prop := seqNestsRow.holds Try.pinned (OpenSpec.ofChange seqNestsSpec)

/-- ITS FALSE NEIGHBOUR: 'it returns false'. Refute it at one input. -/
def seqNestsWrong : ChangeSpec := { name := "seqNests", fn := fun _ => fun
  | [d1, d2, d3, d4] => { results := [.lit (.bool false)], args := [d1, d2, d3, d4] }
  | _ => none }
def SeqNestsWrongFalsely : Prop := seqNestsRow.holds Try.pinned (OpenSpec.ofChange seqNestsWrong)

/- THE SECOND FORM. 'bulk': how many values and letters a reading holds, each counted each time it is reached (what is shared counts as often as it is met; a slice's spare places count too). A statement '..UptoSaid' is the law's where the arguments, and the package variables that the reading takes, are together of bulk at most 1048576: NARROWER than '..Said'. Prove '..Said' where nothing that the law and all that it calls make is longer than what came in: it says more and counts as full. Else prove '..UptoSaid'. A law counts once. -/
mutual
def uptoBulk {H : Type} : DataW H → Nat
  | .lit (.string bytes) => bytes.length + 1
  | .lit _ => 1
  | .nil => 1
  | .ptr d => uptoBulk d + 1
  | .slice elems spare => uptoBulkAll elems + uptoBulkAll spare + 1
  | .agg parts => uptoBulkAll parts + 1
  | .iface _ d => uptoBulk d + 1
  | .map entries => uptoBulkEntries entries + 1
  | .held _ => 1
def uptoBulkAll {H : Type} : List (DataW H) → Nat
  | [] => 0
  | d :: r => uptoBulk d + uptoBulkAll r
def uptoBulkEntries {H : Type} : List (Lit × DataW H) → Nat
  | [] => 0
  | x :: r => uptoBulkEntry x + uptoBulkEntries r
def uptoBulkEntry {H : Type} : Lit × DataW H → Nat
  | (.string bytes, d) => bytes.length + uptoBulk d + 1
  | (_, d) => uptoBulk d + 1
 end
def uptoSmall : (H : Type) → List (DataW H) → Bool := fun _ ds => decide (uptoBulkAll ds ≤ 1048576)
def OpenSpec.upto (s : _root_.Go.ChangeSpec) : _root_.Go.OpenSpec := { _root_.Go.OpenSpec.ofChange s with cond := some uptoSmall }

/-- 'cortegelaw1.SeqLists', WHERE WHAT IT READS IS OF BULK AT MOST 1048576: true; the input reads as it did. -/
def seqListsUptoRow : OpenClaim := { program := "ytnagjilogadinaa", sum := "e5f69e31092c811cdc2bb25569b781e35347f3e9ba34d674c375d283d7d32abf", func := "cortege/cortegelaw1.SeqLists", spec := "seqLists", unfollowed := true, recurses := true, apart := false, narrowed := true }
def SeqListsUptoSaid : Prop := seqListsUptoRow.holds Try.pinned (OpenSpec.upto seqListsSpec)

/-- 'cortegelaw1.SeqLazy', WHERE WHAT IT READS IS OF BULK AT MOST 1048576: true; the input reads as it did. -/
def seqLazyUptoRow : OpenClaim := { program := "ytnagjilogadinaa", sum := "e5f69e31092c811cdc2bb25569b781e35347f3e9ba34d674c375d283d7d32abf", func := "cortege/cortegelaw1.SeqLazy", spec := "seqLazy", unfollowed := true, recurses := true, apart := false, narrowed := true }
def SeqLazyUptoSaid : Prop := seqLazyUptoRow.holds Try.pinned (OpenSpec.upto seqLazySpec)

/-- 'cortegelaw1.SeqTakes', WHERE WHAT IT READS IS OF BULK AT MOST 1048576: true; the input reads as it did. -/
def seqTakesUptoRow : OpenClaim := { program := "ytnagjilogadinaa", sum := "e5f69e31092c811cdc2bb25569b781e35347f3e9ba34d674c375d283d7d32abf", func := "cortege/cortegelaw1.SeqTakes", spec := "seqTakes", unfollowed := true, recurses := true, apart := false, narrowed := true }
def SeqTakesUptoSaid : Prop := seqTakesUptoRow.holds Try.pinned (OpenSpec.upto seqTakesSpec)

/-- 'cortegelaw1.SeqNests', WHERE WHAT IT READS IS OF BULK AT MOST 1048576: true; the input reads as it did. -/
def seqNestsUptoRow : OpenClaim := { program := "ytnagjilogadinaa", sum := "e5f69e31092c811cdc2bb25569b781e35347f3e9ba34d674c375d283d7d32abf", func := "cortege/cortegelaw1.SeqNests", spec := "seqNests", unfollowed := true, recurses := true, apart := false, narrowed := true }
def SeqNestsUptoSaid : Prop := seqNestsUptoRow.holds Try.pinned (OpenSpec.upto seqNestsSpec)

end Rows
end Go.Proofs.Ytnagjilogadinaa
