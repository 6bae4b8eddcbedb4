/-
  No cell of these rows narrows 'for every input' (looked for: loops, veiled, ifaces, maps, wideKeys, modest, calm, conditions, laid).
  DERIVED. THE GIVEN ROWS OF THIS SEAT. 3 by the template 'for every input the law returns true; each argument reads behind the call as it read before'; 0 by the template 'total and deterministic' (their statements: YtkjhgbndnaemlaaTotals.lean).
  GIVEN WITH THE SEED: the statements are not yours to turn. If you find one false, say at which input.
  Laid BY PROGRAM, IN A SANDBOX (cutbox-rows.mjs): the forced cells as the released guide's own fill.sh prints them over the translation 6e63c414950b856b… (all of the seat's roots in one cut). By AI agents, Wed Nov 11 2026. No macro, syntax, notation, axiom, sorry.
-/
import Derived.Test.YtkjhgbndnaemlaaChecked
import GoSem.Claim
import GoSem.ClaimJoined
import GoSem.ClaimMapViews
import Derived.JoinedTies
import Derived.KernelRfl
namespace Go.Proofs.Ytkjhgbndnaemlaa
/- THE CELL 'sum', in the pinned program and in every row, IS THE sha256 OF THE DUMP (.gsa) THAT YtkjhgbndnaemlaaProg.lean LOADS. Nothing in Lean hashes anything: it is a label: what it is worth is what the hold of that sum in a sandbox is worth. -/
noncomputable def Try.pinned : Pinned := { name := "ytkjhgbndnaemlaa", sum := "6e63c414950b856b5913a7a8613b21504f9ca0cf2c31dc5ed27ec0abb782f8cb", checked := Try.checked }
namespace Rows
def none {H : Type} : Left H := { results := [], args := [] }

/-- 'cortegelaw19.SeenScript': WHATEVER THE INPUT: true; the input reads as it did. -/
def seenScriptSpec : ChangeSpec := { name := "seenScript", fn := fun _ => fun
  | [d1, d2] => { results := [.lit (.bool true)], args := [d1, d2] }
  | _ => none }
def seenScriptRow : OpenClaim := { program := "ytkjhgbndnaemlaa", sum := "6e63c414950b856b5913a7a8613b21504f9ca0cf2c31dc5ed27ec0abb782f8cb", func := "cortege/cortegelaw19.SeenScript", spec := "seenScript", unfollowed := true, recurses := true, apart := false }
def SeenScriptSaid : Prop := seenScriptRow.holds Try.pinned (OpenSpec.ofChange seenScriptSpec)

/-- ITS FALSE NEIGHBOUR: 'it returns false'. Refute it at one input. -/
def seenScriptWrong : ChangeSpec := { name := "seenScript", fn := fun _ => fun
  | [d1, d2] => { results := [.lit (.bool false)], args := [d1, d2] }
  | _ => none }
def SeenScriptWrongFalsely : Prop := seenScriptRow.holds Try.pinned (OpenSpec.ofChange seenScriptWrong)

/-- 'cortegelaw19.SeenKeeps': WHATEVER THE INPUT: true; the input reads as it did. -/
def seenKeepsSpec : ChangeSpec := { name := "seenKeeps", fn := fun _ => fun
  | [d1, d2, d3] => { results := [.lit (.bool true)], args := [d1, d2, d3] }
  | _ => none }
def seenKeepsRow : OpenClaim := { program := "ytkjhgbndnaemlaa", sum := "6e63c414950b856b5913a7a8613b21504f9ca0cf2c31dc5ed27ec0abb782f8cb", func := "cortege/cortegelaw19.SeenKeeps", spec := "seenKeeps", unfollowed := true, recurses := true, apart := false }
def SeenKeepsSaid : Prop := seenKeepsRow.holds Try.pinned (OpenSpec.ofChange seenKeepsSpec)

/-- ITS FALSE NEIGHBOUR: 'it returns false'. Refute it at one input. -/
def seenKeepsWrong : ChangeSpec := { name := "seenKeeps", fn := fun _ => fun
  | [d1, d2, d3] => { results := [.lit (.bool false)], args := [d1, d2, d3] }
  | _ => none }
def SeenKeepsWrongFalsely : Prop := seenKeepsRow.holds Try.pinned (OpenSpec.ofChange seenKeepsWrong)

/-- 'cortegelaw19.SeenNone': WHATEVER THE INPUT: true; the input reads as it did. -/
def seenNoneSpec : ChangeSpec := { name := "seenNone", fn := fun _ => fun
  | [d] => { results := [.lit (.bool true)], args := [d] }
  | _ => none }
def seenNoneRow : OpenClaim := { program := "ytkjhgbndnaemlaa", sum := "6e63c414950b856b5913a7a8613b21504f9ca0cf2c31dc5ed27ec0abb782f8cb", func := "cortege/cortegelaw19.SeenNone", spec := "seenNone", unfollowed := true, recurses := true, apart := false }
def SeenNoneSaid : Prop := seenNoneRow.holds Try.pinned (OpenSpec.ofChange seenNoneSpec)

/-- ITS FALSE NEIGHBOUR: 'it returns false'. Refute it at one input. -/
def seenNoneWrong : ChangeSpec := { name := "seenNone", fn := fun _ => fun
  | [d] => { results := [.lit (.bool false)], args := [d] }
  | _ => none }
def SeenNoneWrongFalsely : Prop := seenNoneRow.holds Try.pinned (OpenSpec.ofChange seenNoneWrong)

/- THE SECOND FORM. 'bulk': how many values and letters a reading holds, each counted each time it is reached (what is shared counts as often as it is met; a slice's spare places count too). A statement '..UptoSaid' is the law's where the arguments, and the package variables that the reading takes, are together of bulk at most 1048576: NARROWER than '..Said'. Prove '..Said' where nothing that the law and all that it calls make is longer than what came in: it says more and counts as full. Else prove '..UptoSaid'. A law counts once. -/
mutual
def uptoBulk {H : Type} : DataW H → Nat
  | .lit (.string bytes) => bytes.length + 1
  | .lit _ => 1
  | .nil => 1
  | .ptr d => uptoBulk d + 1
  | .slice elems spare => uptoBulkAll elems + uptoBulkAll spare + 1
  | .agg parts => uptoBulkAll parts + 1
  | .iface _ d => uptoBulk d + 1
  | .map entries => uptoBulkEntries entries + 1
  | .held _ => 1
def uptoBulkAll {H : Type} : List (DataW H) → Nat
  | [] => 0
  | d :: r => uptoBulk d + uptoBulkAll r
def uptoBulkEntries {H : Type} : List (Lit × DataW H) → Nat
  | [] => 0
  | x :: r => uptoBulkEntry x + uptoBulkEntries r
def uptoBulkEntry {H : Type} : Lit × DataW H → Nat
  | (.string bytes, d) => bytes.length + uptoBulk d + 1
  | (_, d) => uptoBulk d + 1
 end
def uptoSmall : (H : Type) → List (DataW H) → Bool := fun _ ds => decide (uptoBulkAll ds ≤ 1048576)
def OpenSpec.upto (s : _root_.Go.ChangeSpec) : _root_.Go.OpenSpec := { _root_.Go.OpenSpec.ofChange s with cond := some uptoSmall }

/-- 'cortegelaw19.SeenScript', WHERE WHAT IT READS IS OF BULK AT MOST 1048576: true; the input reads as it did. -/
def seenScriptUptoRow : OpenClaim := { program := "ytkjhgbndnaemlaa", sum := "6e63c414950b856b5913a7a8613b21504f9ca0cf2c31dc5ed27ec0abb782f8cb", func := "cortege/cortegelaw19.SeenScript", spec := "seenScript", unfollowed := true, recurses := true, apart := false, narrowed := true }
def SeenScriptUptoSaid : Prop := seenScriptUptoRow.holds Try.pinned (OpenSpec.upto seenScriptSpec)

/-- 'cortegelaw19.SeenKeeps', WHERE WHAT IT READS IS OF BULK AT MOST 1048576: true; the input reads as it did. -/
def seenKeepsUptoRow : OpenClaim := { program := "ytkjhgbndnaemlaa", sum := "6e63c414950b856b5913a7a8613b21504f9ca0cf2c31dc5ed27ec0abb782f8cb", func := "cortege/cortegelaw19.SeenKeeps", spec := "seenKeeps", unfollowed := true, recurses := true, apart := false, narrowed := true }
def SeenKeepsUptoSaid : Prop := seenKeepsUptoRow.holds Try.pinned (OpenSpec.upto seenKeepsSpec)

/-- 'cortegelaw19.SeenNone', WHERE WHAT IT READS IS OF BULK AT MOST 1048576: true; the input reads as it did. -/
def seenNoneUptoRow : OpenClaim := { program := "ytkjhgbndnaemlaa", sum := "6e63c414950b856b5913a7a8613b21504f9ca0cf2c31dc5ed27ec0abb782f8cb", func := "cortege/cortegelaw19.SeenNone", spec := "seenNone", unfollowed := true, recurses := true, apart := false, narrowed := true }
def SeenNoneUptoSaid : Prop := seenNoneUptoRow.holds Try.pinned (OpenSpec.upto seenNoneSpec)

end Rows
end Go.Proofs.Ytkjhgbndnaemlaa
