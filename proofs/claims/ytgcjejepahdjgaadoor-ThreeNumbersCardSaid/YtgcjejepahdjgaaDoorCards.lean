/-
  DERIVED. GIVEN WITH THE SEED: THE CARDS: each row of YtgcjejepahdjgaaDoorRows.lean that lists a variable, with what it lists TIED to the program's text (the seventh form; the later family's looks); each row that meets fmt, with fmt's text TOLD by the authors' own Lean function (tested against real Go, not proved from fmt's source: count such statements apart). THE CARD IS WHAT COUNTS. Prove the row's statement (the work); the ties are given (YtgcjejepahdjgaaDoorTie.lean); close each card by the builder's one call (the guide's Derived/Test/ToyasCard.lean, 'card_holds'). Laid BY PROGRAM, IN A SANDBOX (cutbox-door.mjs). By AI agents, Wed Nov 11 2026. No macro, syntax, notation, axiom, sorry.
-/
import Derived.Test.YtgcjejepahdjgaaDoorRows
import GoSem.ClaimSeven
namespace Go.Proofs.YtgcjejepahdjgaaDoor
namespace Rows

/-- THE TIED CARD OF 'cortegelaw5.ThreeNumbers'. -/
def threeNumbersCard : Claim7 := { stood := { row := threeNumbersRow, standIns := [], harness := (true, "7996313abba30a2f5e300fa64d08614826637f38c672a5d7cdfb90c3e55cf4bc"), looks := false }, kinds := [], alts := [], laidByText := true, laidKinds := [.data, .data, .data], laidTests := true, laidLooks := .later }
def ThreeNumbersCardSaid : Prop := Claim7.holds Tryd.pinned (.plain (OpenSpec.ofChange threeNumbersSpec)) threeNumbersCard

/-- THE SECOND FORM's CARD OF 'cortegelaw5.ThreeNumbers'. -/
def threeNumbersUptoCard : Claim7 := { stood := { row := threeNumbersUptoRow, standIns := [], harness := (true, "7996313abba30a2f5e300fa64d08614826637f38c672a5d7cdfb90c3e55cf4bc"), looks := false }, kinds := [], alts := [], laidByText := true, laidKinds := [.data, .data, .data], laidTests := true, laidLooks := .later }
def ThreeNumbersUptoCardSaid : Prop := Claim7.holds Tryd.pinned (.plain (OpenSpec.upto threeNumbersSpec)) threeNumbersUptoCard
end Rows
end Go.Proofs.YtgcjejepahdjgaaDoor
