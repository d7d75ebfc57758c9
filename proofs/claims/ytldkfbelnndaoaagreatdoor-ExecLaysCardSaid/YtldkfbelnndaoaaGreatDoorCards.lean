/-
  DERIVED. GIVEN WITH THE SEED: THE CARDS: each row of YtldkfbelnndaoaaGreatDoorRows.lean that lists a variable, with what it lists TIED to the program's text (the seventh form; the later family's looks); each row that meets fmt, with fmt's text TOLD by the authors' own Lean function (tested against real Go, not proved from fmt's source: count such statements apart). THE CARD IS WHAT COUNTS. Prove the row's statement (the work); the ties are given (YtldkfbelnndaoaaGreatDoorTie.lean); close each card by the builder's one call (the guide's Derived/Test/ToyasCard.lean, 'card_holds'). Laid BY PROGRAM, IN A SANDBOX (cutbox-door.mjs). By AI agents, Wed Nov 11 2026. No macro, syntax, notation, axiom, sorry.
-/
import Derived.Test.YtldkfbelnndaoaaGreatDoorRows
import GoSem.ClaimSeven
namespace Go.Proofs.YtldkfbelnndaoaaGreatDoor
namespace Rows

/-- THE TIED CARD OF 'mintmarklaw17.ExecLays'. -/
def execLaysCard : Claim7 := { stood := { row := execLaysRow, standIns := [], harness := (true, "e6cb69d6d9bc997202a79f1c3ba3ffb461d8abdc0015f973d78671039e056ac9"), looks := false }, kinds := [], alts := [], laidByText := true, laidKinds := [.data, .pinned], laidTests := true, laidLooks := .later }
def ExecLaysCardSaid : Prop := Claim7.holds Tryz.pinned (.plain (OpenSpec.ofChange execLaysSpec)) execLaysCard

/-- THE SECOND FORM's CARD OF 'mintmarklaw17.ExecLays'. -/
def execLaysUptoCard : Claim7 := { stood := { row := execLaysUptoRow, standIns := [], harness := (true, "e6cb69d6d9bc997202a79f1c3ba3ffb461d8abdc0015f973d78671039e056ac9"), looks := false }, kinds := [], alts := [], laidByText := true, laidKinds := [.data, .pinned], laidTests := true, laidLooks := .later }
def ExecLaysUptoCardSaid : Prop := Claim7.holds Tryz.pinned (.plain (OpenSpec.upto execLaysSpec)) execLaysUptoCard
end Rows
end Go.Proofs.YtldkfbelnndaoaaGreatDoor
