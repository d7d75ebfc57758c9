/-
  DERIVED. GIVEN WITH THE SEED: THE CARDS: each row of YtobkjnmdbkieeaaDoorRows.lean that lists a variable, with what it lists TIED to the program's text (the seventh form; the later family's looks); each row that meets fmt, with fmt's text TOLD by the authors' own Lean function (tested against real Go, not proved from fmt's source: count such statements apart). THE CARD IS WHAT COUNTS. Prove the row's statement (the work); the ties are given (YtobkjnmdbkieeaaDoorTie.lean); close each card by the builder's one call (the guide's Derived/Test/ToyasCard.lean, 'card_holds'). Laid BY PROGRAM, IN A SANDBOX (cutbox-door.mjs). By AI agents, Wed Nov 11 2026. No macro, syntax, notation, axiom, sorry.
-/
import Derived.Test.YtobkjnmdbkieeaaDoorRows
import GoSem.ClaimSeven
namespace Go.Proofs.YtobkjnmdbkieeaaDoor
namespace Rows

/-- THE TIED CARD OF 'mintmarklaw14.AsmBack'. -/
def asmBackCard : Claim7 := { stood := { row := asmBackRow, standIns := [], harness := (true, "9a5a29b4a94cbfd2abd4fd3e5ba6d5aa29ce119edd4f226ea169d26eb3ab74fd"), looks := false }, kinds := [], alts := [], laidByText := true, laidKinds := [.data, .pinned], laidTests := true, laidLooks := .later }
def AsmBackCardSaid : Prop := Claim7.holds Tryd.pinned (.plain (OpenSpec.ofChange asmBackSpec)) asmBackCard

/-- THE TIED CARD OF 'mintmarklaw14.AsmMarks'. -/
def asmMarksCard : Claim7 := { stood := { row := asmMarksRow, standIns := [], harness := (true, "9a5a29b4a94cbfd2abd4fd3e5ba6d5aa29ce119edd4f226ea169d26eb3ab74fd"), looks := false }, kinds := [], alts := [], laidByText := true, laidKinds := [.data, .pinned], laidTests := true, laidLooks := .later }
def AsmMarksCardSaid : Prop := Claim7.holds Tryd.pinned (.plain (OpenSpec.ofChange asmMarksSpec)) asmMarksCard

/-- THE SECOND FORM's CARD OF 'mintmarklaw14.AsmBack'. -/
def asmBackUptoCard : Claim7 := { stood := { row := asmBackUptoRow, standIns := [], harness := (true, "9a5a29b4a94cbfd2abd4fd3e5ba6d5aa29ce119edd4f226ea169d26eb3ab74fd"), looks := false }, kinds := [], alts := [], laidByText := true, laidKinds := [.data, .pinned], laidTests := true, laidLooks := .later }
def AsmBackUptoCardSaid : Prop := Claim7.holds Tryd.pinned (.plain (OpenSpec.upto asmBackSpec)) asmBackUptoCard

/-- THE SECOND FORM's CARD OF 'mintmarklaw14.AsmMarks'. -/
def asmMarksUptoCard : Claim7 := { stood := { row := asmMarksUptoRow, standIns := [], harness := (true, "9a5a29b4a94cbfd2abd4fd3e5ba6d5aa29ce119edd4f226ea169d26eb3ab74fd"), looks := false }, kinds := [], alts := [], laidByText := true, laidKinds := [.data, .pinned], laidTests := true, laidLooks := .later }
def AsmMarksUptoCardSaid : Prop := Claim7.holds Tryd.pinned (.plain (OpenSpec.upto asmMarksSpec)) asmMarksUptoCard
end Rows
end Go.Proofs.YtobkjnmdbkieeaaDoor
