/-
  DERIVED. GIVEN WITH THE SEED: THE CARDS: each row of YtniobphfbfnccaaDoorRows.lean that lists a variable, with what it lists TIED to the program's text (the seventh form; the later family's looks); each row that meets fmt, with fmt's text TOLD by the authors' own Lean function (tested against real Go, not proved from fmt's source: count such statements apart). THE CARD IS WHAT COUNTS. Prove the row's statement (the work); the ties are given (YtniobphfbfnccaaDoorTie.lean); close each card by the builder's one call (the guide's Derived/Test/ToyasCard.lean, 'card_holds'). Laid BY PROGRAM, IN A SANDBOX (cutbox-door.mjs). By AI agents, Wed Nov 11 2026. No macro, syntax, notation, axiom, sorry.
-/
import Derived.Test.YtniobphfbfnccaaDoorRows
import GoSem.ClaimSeven
namespace Go.Proofs.YtniobphfbfnccaaDoor
namespace Rows

/-- THE TIED CARD OF 'cortegelaw4.DiffAlike'. -/
def diffAlikeCard : Claim7 := { stood := { row := diffAlikeRow, standIns := [], harness := (true, "a1dbb50dd175faf8b76995daf6d4284a90478e67bb48c74b9065c489349fe247"), looks := false }, kinds := [], alts := [], laidByText := true, laidKinds := [.data, .data, .data], laidTests := true, laidLooks := .later }
def DiffAlikeCardSaid : Prop := Claim7.holds Tryd.pinned (.plain (OpenSpec.ofChange diffAlikeSpec)) diffAlikeCard

/-- THE SECOND FORM's CARD OF 'cortegelaw4.DiffAlike'. -/
def diffAlikeUptoCard : Claim7 := { stood := { row := diffAlikeUptoRow, standIns := [], harness := (true, "a1dbb50dd175faf8b76995daf6d4284a90478e67bb48c74b9065c489349fe247"), looks := false }, kinds := [], alts := [], laidByText := true, laidKinds := [.data, .data, .data], laidTests := true, laidLooks := .later }
def DiffAlikeUptoCardSaid : Prop := Claim7.holds Tryd.pinned (.plain (OpenSpec.upto diffAlikeSpec)) diffAlikeUptoCard
end Rows
end Go.Proofs.YtniobphfbfnccaaDoor
