/-
  DERIVED. GIVEN WITH THE SEED: THE CARDS: each row of YtkjhgbndnaemlaaDoorRows.lean that lists a variable, with what it lists TIED to the program's text (the seventh form; the later family's looks); each row that meets fmt, with fmt's text TOLD by the authors' own Lean function (tested against real Go, not proved from fmt's source: count such statements apart). THE CARD IS WHAT COUNTS. Prove the row's statement (the work); the ties are given (YtkjhgbndnaemlaaDoorTie.lean); close each card by the builder's one call (the guide's Derived/Test/ToyasCard.lean, 'card_holds'). Laid BY PROGRAM, IN A SANDBOX (cutbox-door.mjs). By AI agents, Wed Nov 11 2026. No macro, syntax, notation, axiom, sorry.
-/
import Derived.Test.YtkjhgbndnaemlaaDoorRows
import GoSem.ClaimSeven
namespace Go.Proofs.YtkjhgbndnaemlaaDoor
namespace Rows

/-- THE TIED CARD OF 'cortegelaw19.SeenKeys'. -/
def seenKeysCard : Claim7 := { stood := { row := seenKeysRow, standIns := [], harness := (true, "0a62065dfac3a5f684f3ae6881ce7700f18c346b33bdca65d7105efc5734b636"), looks := false }, kinds := [], alts := [], laidByText := true, laidKinds := [.data, .data, .data], laidTests := true, laidLooks := .later }
def SeenKeysCardSaid : Prop := Claim7.holds Tryd.pinned (.plain (OpenSpec.ofChange seenKeysSpec)) seenKeysCard

/-- THE SECOND FORM's CARD OF 'cortegelaw19.SeenKeys'. -/
def seenKeysUptoCard : Claim7 := { stood := { row := seenKeysUptoRow, standIns := [], harness := (true, "0a62065dfac3a5f684f3ae6881ce7700f18c346b33bdca65d7105efc5734b636"), looks := false }, kinds := [], alts := [], laidByText := true, laidKinds := [.data, .data, .data], laidTests := true, laidLooks := .later }
def SeenKeysUptoCardSaid : Prop := Claim7.holds Tryd.pinned (.plain (OpenSpec.upto seenKeysSpec)) seenKeysUptoCard
end Rows
end Go.Proofs.YtkjhgbndnaemlaaDoor
