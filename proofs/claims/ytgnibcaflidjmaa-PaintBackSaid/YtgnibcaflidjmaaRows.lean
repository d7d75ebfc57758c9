/-
  No cell of these rows narrows 'for every input' (looked for: loops, veiled, ifaces, maps, wideKeys, modest, calm, conditions, laid).
  DERIVED. THE GIVEN ROWS OF THIS SEAT. 5 by the template 'for every input the law returns true; each argument reads behind the call as it read before'; 0 by the template 'total and deterministic' (their statements: YtgnibcaflidjmaaTotals.lean).
  GIVEN WITH THE SEED: the statements are not yours to turn. If you find one false, say at which input.
  Laid BY PROGRAM, IN A SANDBOX (cutbox-rows.mjs): the forced cells as the released guide's own fill.sh prints them over the translation d7a0e236d24cbdb1… (all of the seat's roots in one cut). By AI agents, Wed Nov 11 2026. No macro, syntax, notation, axiom, sorry.
-/
import Derived.Test.YtgnibcaflidjmaaChecked
import GoSem.Claim
import GoSem.ClaimJoined
import GoSem.ClaimMapViews
import Derived.JoinedTies
import Derived.KernelRfl
namespace Go.Proofs.Ytgnibcaflidjmaa
/- THE CELL 'sum', in the pinned program and in every row, IS THE sha256 OF THE DUMP (.gsa) THAT YtgnibcaflidjmaaProg.lean LOADS. Nothing in Lean hashes anything: it is a label: what it is worth is what the hold of that sum in a sandbox is worth. -/
noncomputable def Try.pinned : Pinned := { name := "ytgnibcaflidjmaa", sum := "d7a0e236d24cbdb1c29bb3a07325b2d347ce6ad7d8f8626c8f5ea40fbb8aea36", checked := Try.checked }
namespace Rows
def none {H : Type} : Left H := { results := [], args := [] }

/-- 'mintmarklaw30.AuditNames': WHATEVER THE INPUT: true; the input reads as it did. -/
def auditNamesSpec : ChangeSpec := { name := "auditNames", fn := fun _ => fun
  | [d1, d2] => { results := [.lit (.bool true)], args := [d1, d2] }
  | _ => none }
def auditNamesRow : OpenClaim := { program := "ytgnibcaflidjmaa", sum := "d7a0e236d24cbdb1c29bb3a07325b2d347ce6ad7d8f8626c8f5ea40fbb8aea36", func := "mintmark/mintmarklaw30.AuditNames", spec := "auditNames", inPlace := ["internal/abi.NoEscape", "internal/bytealg.MakeNoZero"], recurses := true, apart := false }
def AuditNamesSaid : Prop := auditNamesRow.holds Try.pinned (OpenSpec.ofChange auditNamesSpec)

/-- ITS FALSE NEIGHBOUR: 'it returns false'. Refute it at one input. -/
def auditNamesWrong : ChangeSpec := { name := "auditNames", fn := fun _ => fun
  | [d1, d2] => { results := [.lit (.bool false)], args := [d1, d2] }
  | _ => none }
def AuditNamesWrongFalsely : Prop := auditNamesRow.holds Try.pinned (OpenSpec.ofChange auditNamesWrong)

/-- 'mintmarklaw29.ScriptTexts': WHATEVER THE INPUT: true; the input reads as it did. -/
def scriptTextsSpec : ChangeSpec := { name := "scriptTexts", fn := fun _ => fun
  | [d1, d2] => { results := [.lit (.bool true)], args := [d1, d2] }
  | _ => none }
def scriptTextsRow : OpenClaim := { program := "ytgnibcaflidjmaa", sum := "d7a0e236d24cbdb1c29bb3a07325b2d347ce6ad7d8f8626c8f5ea40fbb8aea36", func := "mintmark/mintmarklaw29.ScriptTexts", spec := "scriptTexts", inPlace := ["internal/abi.NoEscape", "internal/bytealg.MakeNoZero"], unfollowed := true, recurses := true, apart := false }
def ScriptTextsSaid : Prop := scriptTextsRow.holds Try.pinned (OpenSpec.ofChange scriptTextsSpec)

/-- ITS FALSE NEIGHBOUR: 'it returns false'. Refute it at one input. -/
def scriptTextsWrong : ChangeSpec := { name := "scriptTexts", fn := fun _ => fun
  | [d1, d2] => { results := [.lit (.bool false)], args := [d1, d2] }
  | _ => none }
def ScriptTextsWrongFalsely : Prop := scriptTextsRow.holds Try.pinned (OpenSpec.ofChange scriptTextsWrong)

/-- 'mintmarklaw29.ScriptTraces': WHATEVER THE INPUT: true; the input reads as it did. -/
def scriptTracesSpec : ChangeSpec := { name := "scriptTraces", fn := fun _ => fun
  | [d1, d2, d3] => { results := [.lit (.bool true)], args := [d1, d2, d3] }
  | _ => none }
def scriptTracesRow : OpenClaim := { program := "ytgnibcaflidjmaa", sum := "d7a0e236d24cbdb1c29bb3a07325b2d347ce6ad7d8f8626c8f5ea40fbb8aea36", func := "mintmark/mintmarklaw29.ScriptTraces", spec := "scriptTraces", inPlace := ["internal/abi.NoEscape", "internal/bytealg.MakeNoZero"], unfollowed := true, recurses := true, apart := false }
def ScriptTracesSaid : Prop := scriptTracesRow.holds Try.pinned (OpenSpec.ofChange scriptTracesSpec)

/-- ITS FALSE NEIGHBOUR: 'it returns false'. Refute it at one input. -/
def scriptTracesWrong : ChangeSpec := { name := "scriptTraces", fn := fun _ => fun
  | [d1, d2, d3] => { results := [.lit (.bool false)], args := [d1, d2, d3] }
  | _ => none }
def ScriptTracesWrongFalsely : Prop := scriptTracesRow.holds Try.pinned (OpenSpec.ofChange scriptTracesWrong)

/-- 'mintmarklaw25.PaintSets': WHATEVER THE INPUT: true; the input reads as it did. -/
def paintSetsSpec : ChangeSpec := { name := "paintSets", fn := fun _ => fun
  | [d1, d2, d3] => { results := [.lit (.bool true)], args := [d1, d2, d3] }
  | _ => none }
def paintSetsRow : OpenClaim := { program := "ytgnibcaflidjmaa", sum := "d7a0e236d24cbdb1c29bb3a07325b2d347ce6ad7d8f8626c8f5ea40fbb8aea36", func := "mintmark/mintmarklaw25.PaintSets", spec := "paintSets", inPlace := ["maps.clone"], unfollowed := true, recurses := true, apart := false }
def PaintSetsSaid : Prop := paintSetsRow.holds Try.pinned (OpenSpec.ofChange paintSetsSpec)

/-- ITS FALSE NEIGHBOUR: 'it returns false'. Refute it at one input. -/
def paintSetsWrong : ChangeSpec := { name := "paintSets", fn := fun _ => fun
  | [d1, d2, d3] => { results := [.lit (.bool false)], args := [d1, d2, d3] }
  | _ => none }
def PaintSetsWrongFalsely : Prop := paintSetsRow.holds Try.pinned (OpenSpec.ofChange paintSetsWrong)

/-- 'mintmarklaw25.PaintBack': WHATEVER THE INPUT: true; the input reads as it did. -/
def paintBackSpec : ChangeSpec := { name := "paintBack", fn := fun _ => fun
  | [d1, d2] => { results := [.lit (.bool true)], args := [d1, d2] }
  | _ => none }
def paintBackRow : OpenClaim := { program := "ytgnibcaflidjmaa", sum := "d7a0e236d24cbdb1c29bb3a07325b2d347ce6ad7d8f8626c8f5ea40fbb8aea36", func := "mintmark/mintmarklaw25.PaintBack", spec := "paintBack", inPlace := ["maps.clone"], unfollowed := true, recurses := true, apart := false }
def PaintBackSaid : Prop := paintBackRow.holds Try.pinned (OpenSpec.ofChange paintBackSpec)

/-- ITS FALSE NEIGHBOUR: 'it returns false'. Refute it at one input. -/
def paintBackWrong : ChangeSpec := { name := "paintBack", fn := fun _ => fun
  | [d1, d2] => { results := [.lit (.bool false)], args := [d1, d2] }
  | _ => none }
def PaintBackWrongFalsely : Prop := paintBackRow.holds Try.pinned (OpenSpec.ofChange paintBackWrong)

/- THE SECOND FORM. 'bulk': how many values and letters a reading holds, each counted each time it is reached (what is shared counts as often as it is met; a slice's spare places count too). A statement '..UptoSaid' is the law's where the arguments, and the package variables that the reading takes, are together of bulk at most 1048576: NARROWER than '..Said'. Prove '..Said' where nothing that the law and all that it calls make is longer than what came in: it says more and counts as full. Else prove '..UptoSaid'. A law counts once. -/
mutual
def uptoBulk {H : Type} : DataW H → Nat
  | .lit (.string bytes) => bytes.length + 1
  | .lit _ => 1
  | .nil => 1
  | .ptr d => uptoBulk d + 1
  | .slice elems spare => uptoBulkAll elems + uptoBulkAll spare + 1
  | .agg parts => uptoBulkAll parts + 1
  | .iface _ d => uptoBulk d + 1
  | .map entries => uptoBulkEntries entries + 1
  | .held _ => 1
def uptoBulkAll {H : Type} : List (DataW H) → Nat
  | [] => 0
  | d :: r => uptoBulk d + uptoBulkAll r
def uptoBulkEntries {H : Type} : List (Lit × DataW H) → Nat
  | [] => 0
  | x :: r => uptoBulkEntry x + uptoBulkEntries r
def uptoBulkEntry {H : Type} : Lit × DataW H → Nat
  | (.string bytes, d) => bytes.length + uptoBulk d + 1
  | (_, d) => uptoBulk d + 1
 end
def uptoSmall : (H : Type) → List (DataW H) → Bool := fun _ ds => decide (uptoBulkAll ds ≤ 1048576)
def OpenSpec.upto (s : _root_.Go.ChangeSpec) : _root_.Go.OpenSpec := { _root_.Go.OpenSpec.ofChange s with cond := some uptoSmall }

/-- 'mintmarklaw30.AuditNames', WHERE WHAT IT READS IS OF BULK AT MOST 1048576: true; the input reads as it did. -/
def auditNamesUptoRow : OpenClaim := { program := "ytgnibcaflidjmaa", sum := "d7a0e236d24cbdb1c29bb3a07325b2d347ce6ad7d8f8626c8f5ea40fbb8aea36", func := "mintmark/mintmarklaw30.AuditNames", spec := "auditNames", inPlace := ["internal/abi.NoEscape", "internal/bytealg.MakeNoZero"], recurses := true, apart := false, narrowed := true }
def AuditNamesUptoSaid : Prop := auditNamesUptoRow.holds Try.pinned (OpenSpec.upto auditNamesSpec)

/-- 'mintmarklaw29.ScriptTexts', WHERE WHAT IT READS IS OF BULK AT MOST 1048576: true; the input reads as it did. -/
def scriptTextsUptoRow : OpenClaim := { program := "ytgnibcaflidjmaa", sum := "d7a0e236d24cbdb1c29bb3a07325b2d347ce6ad7d8f8626c8f5ea40fbb8aea36", func := "mintmark/mintmarklaw29.ScriptTexts", spec := "scriptTexts", inPlace := ["internal/abi.NoEscape", "internal/bytealg.MakeNoZero"], unfollowed := true, recurses := true, apart := false, narrowed := true }
def ScriptTextsUptoSaid : Prop := scriptTextsUptoRow.holds Try.pinned (OpenSpec.upto scriptTextsSpec)

/-- 'mintmarklaw29.ScriptTraces', WHERE WHAT IT READS IS OF BULK AT MOST 1048576: true; the input reads as it did. -/
def scriptTracesUptoRow : OpenClaim := { program := "ytgnibcaflidjmaa", sum := "d7a0e236d24cbdb1c29bb3a07325b2d347ce6ad7d8f8626c8f5ea40fbb8aea36", func := "mintmark/mintmarklaw29.ScriptTraces", spec := "scriptTraces", inPlace := ["internal/abi.NoEscape", "internal/bytealg.MakeNoZero"], unfollowed := true, recurses := true, apart := false, narrowed := true }
def ScriptTracesUptoSaid : Prop := scriptTracesUptoRow.holds Try.pinned (OpenSpec.upto scriptTracesSpec)

/-- 'mintmarklaw25.PaintSets', WHERE WHAT IT READS IS OF BULK AT MOST 1048576: true; the input reads as it did. -/
def paintSetsUptoRow : OpenClaim := { program := "ytgnibcaflidjmaa", sum := "d7a0e236d24cbdb1c29bb3a07325b2d347ce6ad7d8f8626c8f5ea40fbb8aea36", func := "mintmark/mintmarklaw25.PaintSets", spec := "paintSets", inPlace := ["maps.clone"], unfollowed := true, recurses := true, apart := false, narrowed := true }
def PaintSetsUptoSaid : Prop := paintSetsUptoRow.holds Try.pinned (OpenSpec.upto paintSetsSpec)

/-- 'mintmarklaw25.PaintBack', WHERE WHAT IT READS IS OF BULK AT MOST 1048576: true; the input reads as it did. -/
def paintBackUptoRow : OpenClaim := { program := "ytgnibcaflidjmaa", sum := "d7a0e236d24cbdb1c29bb3a07325b2d347ce6ad7d8f8626c8f5ea40fbb8aea36", func := "mintmark/mintmarklaw25.PaintBack", spec := "paintBack", inPlace := ["maps.clone"], unfollowed := true, recurses := true, apart := false, narrowed := true }
def PaintBackUptoSaid : Prop := paintBackUptoRow.holds Try.pinned (OpenSpec.upto paintBackSpec)

end Rows
end Go.Proofs.Ytgnibcaflidjmaa
