/-
  DERIVED. GIVEN WITH THE SEED: THE CARDS: each row of YtnagjilogadinaaDoorRows.lean that lists a variable, with what it lists TIED to the program's text (the seventh form; the later family's looks); each row that meets fmt, with fmt's text TOLD by the authors' own Lean function (tested against real Go, not proved from fmt's source: count such statements apart). THE CARD IS WHAT COUNTS. Prove the row's statement (the work); the ties are given (YtnagjilogadinaaDoorTie.lean); close each card by the builder's one call (the guide's Derived/Test/ToyasCard.lean, 'card_holds'). Laid BY PROGRAM, IN A SANDBOX (cutbox-door.mjs). By AI agents, Wed Nov 11 2026. No macro, syntax, notation, axiom, sorry.
-/
import Derived.Test.YtnagjilogadinaaDoorRows
import GoSem.ClaimSeven
namespace Go.Proofs.YtnagjilogadinaaDoor
namespace Rows

/-- THE TIED CARD OF 'cortegelaw1.SeqMaps'. -/
def seqMapsCard : Claim7 := { stood := { row := seqMapsRow, standIns := [], harness := (true, "8566fb13f7a9564523cb046333ec96241de30826bb11f51c19ca174ecc5cd830"), looks := false }, kinds := [], alts := [], laidByText := true, laidKinds := [.data, .data, .data], laidTests := true, laidLooks := .later }
def SeqMapsCardSaid : Prop := Claim7.holds Tryd.pinned (.plain (OpenSpec.ofChange seqMapsSpec)) seqMapsCard

/-- THE TIED CARD OF 'cortegelaw1.SeqJoins'. -/
def seqJoinsCard : Claim7 := { stood := { row := seqJoinsRow, standIns := [], harness := (true, "8566fb13f7a9564523cb046333ec96241de30826bb11f51c19ca174ecc5cd830"), looks := false }, kinds := [], alts := [], laidByText := true, laidKinds := [.data, .data, .data], laidTests := true, laidLooks := .later }
def SeqJoinsCardSaid : Prop := Claim7.holds Tryd.pinned (.plain (OpenSpec.ofChange seqJoinsSpec)) seqJoinsCard

/-- THE SECOND FORM's CARD OF 'cortegelaw1.SeqMaps'. -/
def seqMapsUptoCard : Claim7 := { stood := { row := seqMapsUptoRow, standIns := [], harness := (true, "8566fb13f7a9564523cb046333ec96241de30826bb11f51c19ca174ecc5cd830"), looks := false }, kinds := [], alts := [], laidByText := true, laidKinds := [.data, .data, .data], laidTests := true, laidLooks := .later }
def SeqMapsUptoCardSaid : Prop := Claim7.holds Tryd.pinned (.plain (OpenSpec.upto seqMapsSpec)) seqMapsUptoCard

/-- THE SECOND FORM's CARD OF 'cortegelaw1.SeqJoins'. -/
def seqJoinsUptoCard : Claim7 := { stood := { row := seqJoinsUptoRow, standIns := [], harness := (true, "8566fb13f7a9564523cb046333ec96241de30826bb11f51c19ca174ecc5cd830"), looks := false }, kinds := [], alts := [], laidByText := true, laidKinds := [.data, .data, .data], laidTests := true, laidLooks := .later }
def SeqJoinsUptoCardSaid : Prop := Claim7.holds Tryd.pinned (.plain (OpenSpec.upto seqJoinsSpec)) seqJoinsUptoCard
end Rows
end Go.Proofs.YtnagjilogadinaaDoor
