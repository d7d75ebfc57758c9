/-
  No cell of these rows narrows 'for every input' (looked for: loops, veiled, ifaces, maps, wideKeys, modest, calm, conditions, laid).
  DERIVED. THE GIVEN ROWS OF THIS SEAT. 8 by the template 'for every input the law returns true; each argument reads behind the call as it read before'; 0 by the template 'total and deterministic' (their statements: YtbigiabcgplkgaaTotals.lean).
  GIVEN WITH THE SEED: the statements are not yours to turn. If you find one false, say at which input.
  Laid BY PROGRAM, IN A SANDBOX (cutbox-rows.mjs): the forced cells as the released guide's own fill.sh prints them over the translation 3958a1e4cd00862c… (all of the seat's roots in one cut). By AI agents, Wed Nov 11 2026. No macro, syntax, notation, axiom, sorry.
-/
import Derived.Test.YtbigiabcgplkgaaChecked
import GoSem.Claim
import GoSem.ClaimJoined
import GoSem.ClaimMapViews
import Derived.JoinedTies
import Derived.KernelRfl
namespace Go.Proofs.Ytbigiabcgplkgaa
/- THE CELL 'sum', in the pinned program and in every row, IS THE sha256 OF THE DUMP (.gsa) THAT YtbigiabcgplkgaaProg.lean LOADS. Nothing in Lean hashes anything: it is a label: what it is worth is what the hold of that sum in a sandbox is worth. -/
noncomputable def Try.pinned : Pinned := { name := "ytbigiabcgplkgaa", sum := "3958a1e4cd00862ceeb8dd2137f7ccf5dd189621b5bd187d90df8b94b6b6e224", checked := Try.checked }
namespace Rows
def none {H : Type} : Left H := { results := [], args := [] }

/-- 'mintmarklaw10.WalkFinds': WHATEVER THE INPUT: true; the input reads as it did. -/
def walkFindsSpec : ChangeSpec := { name := "walkFinds", fn := fun _ => fun
  | [d1, d2, d3] => { results := [.lit (.bool true)], args := [d1, d2, d3] }
  | _ => none }
def walkFindsRow : OpenClaim := { program := "ytbigiabcgplkgaa", sum := "3958a1e4cd00862ceeb8dd2137f7ccf5dd189621b5bd187d90df8b94b6b6e224", func := "mintmark/mintmarklaw10.WalkFinds", spec := "walkFinds", unfollowed := true, recurses := true, apart := false }
def WalkFindsSaid : Prop := walkFindsRow.holds Try.pinned (OpenSpec.ofChange walkFindsSpec)

/-- ITS FALSE NEIGHBOUR: 'it returns false'. Refute it at one input. -/
def walkFindsWrong : ChangeSpec := { name := "walkFinds", fn := fun _ => fun
  | [d1, d2, d3] => { results := [.lit (.bool false)], args := [d1, d2, d3] }
  | _ => none }
def WalkFindsWrongFalsely : Prop := walkFindsRow.holds Try.pinned (OpenSpec.ofChange walkFindsWrong)

/-- 'mintmarklaw10.WalkApart': WHATEVER THE INPUT: true; the input reads as it did. -/
def walkApartSpec : ChangeSpec := { name := "walkApart", fn := fun _ => fun
  | [d1, d2, d3] => { results := [.lit (.bool true)], args := [d1, d2, d3] }
  | _ => none }
def walkApartRow : OpenClaim := { program := "ytbigiabcgplkgaa", sum := "3958a1e4cd00862ceeb8dd2137f7ccf5dd189621b5bd187d90df8b94b6b6e224", func := "mintmark/mintmarklaw10.WalkApart", spec := "walkApart", unfollowed := true, recurses := true, apart := false }
def WalkApartSaid : Prop := walkApartRow.holds Try.pinned (OpenSpec.ofChange walkApartSpec)

/-- ITS FALSE NEIGHBOUR: 'it returns false'. Refute it at one input. -/
def walkApartWrong : ChangeSpec := { name := "walkApart", fn := fun _ => fun
  | [d1, d2, d3] => { results := [.lit (.bool false)], args := [d1, d2, d3] }
  | _ => none }
def WalkApartWrongFalsely : Prop := walkApartRow.holds Try.pinned (OpenSpec.ofChange walkApartWrong)

/-- 'mintmarklaw10.WalkLeaves': WHATEVER THE INPUT: true; the input reads as it did. -/
def walkLeavesSpec : ChangeSpec := { name := "walkLeaves", fn := fun _ => fun
  | [d1, d2, d3] => { results := [.lit (.bool true)], args := [d1, d2, d3] }
  | _ => none }
def walkLeavesRow : OpenClaim := { program := "ytbigiabcgplkgaa", sum := "3958a1e4cd00862ceeb8dd2137f7ccf5dd189621b5bd187d90df8b94b6b6e224", func := "mintmark/mintmarklaw10.WalkLeaves", spec := "walkLeaves", unfollowed := true, recurses := true, apart := false }
def WalkLeavesSaid : Prop := walkLeavesRow.holds Try.pinned (OpenSpec.ofChange walkLeavesSpec)

/-- ITS FALSE NEIGHBOUR: 'it returns false'. Refute it at one input. -/
def walkLeavesWrong : ChangeSpec := { name := "walkLeaves", fn := fun _ => fun
  | [d1, d2, d3] => { results := [.lit (.bool false)], args := [d1, d2, d3] }
  | _ => none }
def WalkLeavesWrongFalsely : Prop := walkLeavesRow.holds Try.pinned (OpenSpec.ofChange walkLeavesWrong)

/-- 'mintmarklaw10.WalkChecks': WHATEVER THE INPUT: true; the input reads as it did. -/
def walkChecksSpec : ChangeSpec := { name := "walkChecks", fn := fun _ => fun
  | [d1, d2, d3] => { results := [.lit (.bool true)], args := [d1, d2, d3] }
  | _ => none }
def walkChecksRow : OpenClaim := { program := "ytbigiabcgplkgaa", sum := "3958a1e4cd00862ceeb8dd2137f7ccf5dd189621b5bd187d90df8b94b6b6e224", func := "mintmark/mintmarklaw10.WalkChecks", spec := "walkChecks", unfollowed := true, recurses := true, apart := false }
def WalkChecksSaid : Prop := walkChecksRow.holds Try.pinned (OpenSpec.ofChange walkChecksSpec)

/-- ITS FALSE NEIGHBOUR: 'it returns false'. Refute it at one input. -/
def walkChecksWrong : ChangeSpec := { name := "walkChecks", fn := fun _ => fun
  | [d1, d2, d3] => { results := [.lit (.bool false)], args := [d1, d2, d3] }
  | _ => none }
def WalkChecksWrongFalsely : Prop := walkChecksRow.holds Try.pinned (OpenSpec.ofChange walkChecksWrong)

/-- 'mintmarklaw10.WalkMarks': WHATEVER THE INPUT: true; the input reads as it did. -/
def walkMarksSpec : ChangeSpec := { name := "walkMarks", fn := fun _ => fun
  | [d1, d2, d3] => { results := [.lit (.bool true)], args := [d1, d2, d3] }
  | _ => none }
def walkMarksRow : OpenClaim := { program := "ytbigiabcgplkgaa", sum := "3958a1e4cd00862ceeb8dd2137f7ccf5dd189621b5bd187d90df8b94b6b6e224", func := "mintmark/mintmarklaw10.WalkMarks", spec := "walkMarks", unfollowed := true, recurses := true, apart := false }
def WalkMarksSaid : Prop := walkMarksRow.holds Try.pinned (OpenSpec.ofChange walkMarksSpec)

/-- ITS FALSE NEIGHBOUR: 'it returns false'. Refute it at one input. -/
def walkMarksWrong : ChangeSpec := { name := "walkMarks", fn := fun _ => fun
  | [d1, d2, d3] => { results := [.lit (.bool false)], args := [d1, d2, d3] }
  | _ => none }
def WalkMarksWrongFalsely : Prop := walkMarksRow.holds Try.pinned (OpenSpec.ofChange walkMarksWrong)

/-- 'mintmarklaw12.MmuMarks': WHATEVER THE INPUT: true; the input reads as it did. -/
def mmuMarksSpec : ChangeSpec := { name := "mmuMarks", fn := fun _ => fun
  | [d1, d2, d3] => { results := [.lit (.bool true)], args := [d1, d2, d3] }
  | _ => none }
def mmuMarksRow : OpenClaim := { program := "ytbigiabcgplkgaa", sum := "3958a1e4cd00862ceeb8dd2137f7ccf5dd189621b5bd187d90df8b94b6b6e224", func := "mintmark/mintmarklaw12.MmuMarks", spec := "mmuMarks", unfollowed := true, recurses := true, apart := false }
def MmuMarksSaid : Prop := mmuMarksRow.holds Try.pinned (OpenSpec.ofChange mmuMarksSpec)

/-- ITS FALSE NEIGHBOUR: 'it returns false'. Refute it at one input. -/
def mmuMarksWrong : ChangeSpec := { name := "mmuMarks", fn := fun _ => fun
  | [d1, d2, d3] => { results := [.lit (.bool false)], args := [d1, d2, d3] }
  | _ => none }
def MmuMarksWrongFalsely : Prop := mmuMarksRow.holds Try.pinned (OpenSpec.ofChange mmuMarksWrong)

/-- 'mintmarklaw12.MmuAsids': WHATEVER THE INPUT: true; the input reads as it did. -/
def mmuAsidsSpec : ChangeSpec := { name := "mmuAsids", fn := fun _ => fun
  | [d1, d2, d3] => { results := [.lit (.bool true)], args := [d1, d2, d3] }
  | _ => none }
def mmuAsidsRow : OpenClaim := { program := "ytbigiabcgplkgaa", sum := "3958a1e4cd00862ceeb8dd2137f7ccf5dd189621b5bd187d90df8b94b6b6e224", func := "mintmark/mintmarklaw12.MmuAsids", spec := "mmuAsids", unfollowed := true, recurses := true, apart := false }
def MmuAsidsSaid : Prop := mmuAsidsRow.holds Try.pinned (OpenSpec.ofChange mmuAsidsSpec)

/-- ITS FALSE NEIGHBOUR: 'it returns false'. Refute it at one input. -/
def mmuAsidsWrong : ChangeSpec := { name := "mmuAsids", fn := fun _ => fun
  | [d1, d2, d3] => { results := [.lit (.bool false)], args := [d1, d2, d3] }
  | _ => none }
def MmuAsidsWrongFalsely : Prop := mmuAsidsRow.holds Try.pinned (OpenSpec.ofChange mmuAsidsWrong)

/-- 'mintmarklaw12.MmuPlays': WHATEVER THE INPUT: true; the input reads as it did. -/
def mmuPlaysSpec : ChangeSpec := { name := "mmuPlays", fn := fun _ => fun
  | [d] => { results := [.lit (.bool true)], args := [d] }
  | _ => none }
def mmuPlaysRow : OpenClaim := { program := "ytbigiabcgplkgaa", sum := "3958a1e4cd00862ceeb8dd2137f7ccf5dd189621b5bd187d90df8b94b6b6e224", func := "mintmark/mintmarklaw12.MmuPlays", spec := "mmuPlays", unfollowed := true, recurses := true, apart := false }
def MmuPlaysSaid : Prop := mmuPlaysRow.holds Try.pinned (OpenSpec.ofChange mmuPlaysSpec)

/-- ITS FALSE NEIGHBOUR: 'it returns false'. Refute it at one input. -/
def mmuPlaysWrong : ChangeSpec := { name := "mmuPlays", fn := fun _ => fun
  | [d] => { results := [.lit (.bool false)], args := [d] }
  | _ => none }
def MmuPlaysWrongFalsely : Prop := mmuPlaysRow.holds Try.pinned (OpenSpec.ofChange mmuPlaysWrong)

/- THE SECOND FORM. 'bulk': how many values and letters a reading holds, each counted each time it is reached (what is shared counts as often as it is met; a slice's spare places count too). A statement '..UptoSaid' is the law's where the arguments, and the package variables that the reading takes, are together of bulk at most 1048576: NARROWER than '..Said'. Prove '..Said' where nothing that the law and all that it calls make is longer than what came in: it says more and counts as full. Else prove '..UptoSaid'. A law counts once. -/
mutual
def uptoBulk {H : Type} : DataW H → Nat
  | .lit (.string bytes) => bytes.length + 1
  | .lit _ => 1
  | .nil => 1
  | .ptr d => uptoBulk d + 1
  | .slice elems spare => uptoBulkAll elems + uptoBulkAll spare + 1
  | .agg parts => uptoBulkAll parts + 1
  | .iface _ d => uptoBulk d + 1
  | .map entries => uptoBulkEntries entries + 1
  | .held _ => 1
def uptoBulkAll {H : Type} : List (DataW H) → Nat
  | [] => 0
  | d :: r => uptoBulk d + uptoBulkAll r
def uptoBulkEntries {H : Type} : List (Lit × DataW H) → Nat
  | [] => 0
  | x :: r => uptoBulkEntry x + uptoBulkEntries r
def uptoBulkEntry {H : Type} : Lit × DataW H → Nat
  | (.string bytes, d) => bytes.length + uptoBulk d + 1
  | (_, d) => uptoBulk d + 1
 end
def uptoSmall : (H : Type) → List (DataW H) → Bool := fun _ ds => decide (uptoBulkAll ds ≤ 1048576)
def OpenSpec.upto (s : _root_.Go.ChangeSpec) : _root_.Go.OpenSpec := { _root_.Go.OpenSpec.ofChange s with cond := some uptoSmall }

/-- 'mintmarklaw10.WalkFinds', WHERE WHAT IT READS IS OF BULK AT MOST 1048576: true; the input reads as it did. -/
def walkFindsUptoRow : OpenClaim := { program := "ytbigiabcgplkgaa", sum := "3958a1e4cd00862ceeb8dd2137f7ccf5dd189621b5bd187d90df8b94b6b6e224", func := "mintmark/mintmarklaw10.WalkFinds", spec := "walkFinds", unfollowed := true, recurses := true, apart := false, narrowed := true }
def WalkFindsUptoSaid : Prop := walkFindsUptoRow.holds Try.pinned (OpenSpec.upto walkFindsSpec)

/-- 'mintmarklaw10.WalkApart', WHERE WHAT IT READS IS OF BULK AT MOST 1048576: true; the input reads as it did. -/
def walkApartUptoRow : OpenClaim := { program := "ytbigiabcgplkgaa", sum := "3958a1e4cd00862ceeb8dd2137f7ccf5dd189621b5bd187d90df8b94b6b6e224", func := "mintmark/mintmarklaw10.WalkApart", spec := "walkApart", unfollowed := true, recurses := true, apart := false, narrowed := true }
def WalkApartUptoSaid : Prop := walkApartUptoRow.holds Try.pinned (OpenSpec.upto walkApartSpec)

/-- 'mintmarklaw10.WalkLeaves', WHERE WHAT IT READS IS OF BULK AT MOST 1048576: true; the input reads as it did. -/
def walkLeavesUptoRow : OpenClaim := { program := "ytbigiabcgplkgaa", sum := "3958a1e4cd00862ceeb8dd2137f7ccf5dd189621b5bd187d90df8b94b6b6e224", func := "mintmark/mintmarklaw10.WalkLeaves", spec := "walkLeaves", unfollowed := true, recurses := true, apart := false, narrowed := true }
def WalkLeavesUptoSaid : Prop := walkLeavesUptoRow.holds Try.pinned (OpenSpec.upto walkLeavesSpec)

/-- 'mintmarklaw10.WalkChecks', WHERE WHAT IT READS IS OF BULK AT MOST 1048576: true; the input reads as it did. -/
def walkChecksUptoRow : OpenClaim := { program := "ytbigiabcgplkgaa", sum := "3958a1e4cd00862ceeb8dd2137f7ccf5dd189621b5bd187d90df8b94b6b6e224", func := "mintmark/mintmarklaw10.WalkChecks", spec := "walkChecks", unfollowed := true, recurses := true, apart := false, narrowed := true }
def WalkChecksUptoSaid : Prop := walkChecksUptoRow.holds Try.pinned (OpenSpec.upto walkChecksSpec)

/-- 'mintmarklaw10.WalkMarks', WHERE WHAT IT READS IS OF BULK AT MOST 1048576: true; the input reads as it did. -/
def walkMarksUptoRow : OpenClaim := { program := "ytbigiabcgplkgaa", sum := "3958a1e4cd00862ceeb8dd2137f7ccf5dd189621b5bd187d90df8b94b6b6e224", func := "mintmark/mintmarklaw10.WalkMarks", spec := "walkMarks", unfollowed := true, recurses := true, apart := false, narrowed := true }
def WalkMarksUptoSaid : Prop := walkMarksUptoRow.holds Try.pinned (OpenSpec.upto walkMarksSpec)

/-- 'mintmarklaw12.MmuMarks', WHERE WHAT IT READS IS OF BULK AT MOST 1048576: true; the input reads as it did. -/
def mmuMarksUptoRow : OpenClaim := { program := "ytbigiabcgplkgaa", sum := "3958a1e4cd00862ceeb8dd2137f7ccf5dd189621b5bd187d90df8b94b6b6e224", func := "mintmark/mintmarklaw12.MmuMarks", spec := "mmuMarks", unfollowed := true, recurses := true, apart := false, narrowed := true }
def MmuMarksUptoSaid : Prop := mmuMarksUptoRow.holds Try.pinned (OpenSpec.upto mmuMarksSpec)

/-- 'mintmarklaw12.MmuAsids', WHERE WHAT IT READS IS OF BULK AT MOST 1048576: true; the input reads as it did. -/
def mmuAsidsUptoRow : OpenClaim := { program := "ytbigiabcgplkgaa", sum := "3958a1e4cd00862ceeb8dd2137f7ccf5dd189621b5bd187d90df8b94b6b6e224", func := "mintmark/mintmarklaw12.MmuAsids", spec := "mmuAsids", unfollowed := true, recurses := true, apart := false, narrowed := true }
def MmuAsidsUptoSaid : Prop := mmuAsidsUptoRow.holds Try.pinned (OpenSpec.upto mmuAsidsSpec)

/-- 'mintmarklaw12.MmuPlays', WHERE WHAT IT READS IS OF BULK AT MOST 1048576: true; the input reads as it did. -/
def mmuPlaysUptoRow : OpenClaim := { program := "ytbigiabcgplkgaa", sum := "3958a1e4cd00862ceeb8dd2137f7ccf5dd189621b5bd187d90df8b94b6b6e224", func := "mintmark/mintmarklaw12.MmuPlays", spec := "mmuPlays", unfollowed := true, recurses := true, apart := false, narrowed := true }
def MmuPlaysUptoSaid : Prop := mmuPlaysUptoRow.holds Try.pinned (OpenSpec.upto mmuPlaysSpec)

end Rows
end Go.Proofs.Ytbigiabcgplkgaa
