/-
  No cell of these rows narrows 'for every input' (looked for: loops, veiled, ifaces, maps, wideKeys, modest, calm, conditions, laid).
  DERIVED. THE GIVEN ROWS OF THIS SEAT. 9 by the template 'for every input the law returns true; each argument reads behind the call as it read before'; 0 by the template 'total and deterministic' (their statements: YtlklhempbpphhaaTotals.lean).
  GIVEN WITH THE SEED: the statements are not yours to turn. If you find one false, say at which input.
  Laid BY PROGRAM, IN A SANDBOX (cutbox-rows.mjs): the forced cells as the released guide's own fill.sh prints them over the translation ad713d57a7844984… (all of the seat's roots in one cut). By AI agents, Wed Nov 11 2026. No macro, syntax, notation, axiom, sorry.
-/
import Derived.Test.YtlklhempbpphhaaChecked
import GoSem.Claim
import GoSem.ClaimJoined
import GoSem.ClaimMapViews
import Derived.JoinedTies
import Derived.KernelRfl
namespace Go.Proofs.Ytlklhempbpphhaa
/- THE CELL 'sum', in the pinned program and in every row, IS THE sha256 OF THE DUMP (.gsa) THAT YtlklhempbpphhaaProg.lean LOADS. Nothing in Lean hashes anything: it is a label: what it is worth is what the hold of that sum in a sandbox is worth. -/
noncomputable def Try.pinned : Pinned := { name := "ytlklhempbpphhaa", sum := "ad713d57a784498482a425719c363914b7fea0efbce63105bfd7a19c7da1c9e6", checked := Try.checked }
namespace Rows
def none {H : Type} : Left H := { results := [], args := [] }

/-- 'mintmarklaw27.ProcBits': WHATEVER THE INPUT: true; the input reads as it did. -/
def procBitsSpec : ChangeSpec := { name := "procBits", fn := fun _ => fun
  | [d] => { results := [.lit (.bool true)], args := [d] }
  | _ => none }
def procBitsRow : OpenClaim := { program := "ytlklhempbpphhaa", sum := "ad713d57a784498482a425719c363914b7fea0efbce63105bfd7a19c7da1c9e6", func := "mintmark/mintmarklaw27.ProcBits", spec := "procBits", plainKeys := false, apart := false }
def ProcBitsSaid : Prop := procBitsRow.holds Try.pinned (OpenSpec.ofChange procBitsSpec)

/-- ITS FALSE NEIGHBOUR: 'it returns false'. Refute it at one input. -/
def procBitsWrong : ChangeSpec := { name := "procBits", fn := fun _ => fun
  | [d] => { results := [.lit (.bool false)], args := [d] }
  | _ => none }
def ProcBitsWrongFalsely : Prop := procBitsRow.holds Try.pinned (OpenSpec.ofChange procBitsWrong)

/-- 'mintmarklaw29.ScriptSteps': WHATEVER THE INPUT: true; the input reads as it did. -/
def scriptStepsSpec : ChangeSpec := { name := "scriptSteps", fn := fun _ => fun
  | [d1, d2, d3] => { results := [.lit (.bool true)], args := [d1, d2, d3] }
  | _ => none }
def scriptStepsRow : OpenClaim := { program := "ytlklhempbpphhaa", sum := "ad713d57a784498482a425719c363914b7fea0efbce63105bfd7a19c7da1c9e6", func := "mintmark/mintmarklaw29.ScriptSteps", spec := "scriptSteps", unfollowed := true, recurses := true, plainKeys := false, apart := false }
def ScriptStepsSaid : Prop := scriptStepsRow.holds Try.pinned (OpenSpec.ofChange scriptStepsSpec)

/-- ITS FALSE NEIGHBOUR: 'it returns false'. Refute it at one input. -/
def scriptStepsWrong : ChangeSpec := { name := "scriptSteps", fn := fun _ => fun
  | [d1, d2, d3] => { results := [.lit (.bool false)], args := [d1, d2, d3] }
  | _ => none }
def ScriptStepsWrongFalsely : Prop := scriptStepsRow.holds Try.pinned (OpenSpec.ofChange scriptStepsWrong)

/-- 'mintmarklaw11.TlbSets': WHATEVER THE INPUT: true; the input reads as it did. -/
def tlbSetsSpec : ChangeSpec := { name := "tlbSets", fn := fun _ => fun
  | [d1, d2] => { results := [.lit (.bool true)], args := [d1, d2] }
  | _ => none }
def tlbSetsRow : OpenClaim := { program := "ytlklhempbpphhaa", sum := "ad713d57a784498482a425719c363914b7fea0efbce63105bfd7a19c7da1c9e6", func := "mintmark/mintmarklaw11.TlbSets", spec := "tlbSets", unfollowed := true, recurses := true, plainKeys := false, apart := false }
def TlbSetsSaid : Prop := tlbSetsRow.holds Try.pinned (OpenSpec.ofChange tlbSetsSpec)

/-- ITS FALSE NEIGHBOUR: 'it returns false'. Refute it at one input. -/
def tlbSetsWrong : ChangeSpec := { name := "tlbSets", fn := fun _ => fun
  | [d1, d2] => { results := [.lit (.bool false)], args := [d1, d2] }
  | _ => none }
def TlbSetsWrongFalsely : Prop := tlbSetsRow.holds Try.pinned (OpenSpec.ofChange tlbSetsWrong)

/-- 'mintmarklaw11.TlbPlays': WHATEVER THE INPUT: true; the input reads as it did. -/
def tlbPlaysSpec : ChangeSpec := { name := "tlbPlays", fn := fun _ => fun
  | [d] => { results := [.lit (.bool true)], args := [d] }
  | _ => none }
def tlbPlaysRow : OpenClaim := { program := "ytlklhempbpphhaa", sum := "ad713d57a784498482a425719c363914b7fea0efbce63105bfd7a19c7da1c9e6", func := "mintmark/mintmarklaw11.TlbPlays", spec := "tlbPlays", unfollowed := true, recurses := true, plainKeys := false, apart := false }
def TlbPlaysSaid : Prop := tlbPlaysRow.holds Try.pinned (OpenSpec.ofChange tlbPlaysSpec)

/-- ITS FALSE NEIGHBOUR: 'it returns false'. Refute it at one input. -/
def tlbPlaysWrong : ChangeSpec := { name := "tlbPlays", fn := fun _ => fun
  | [d] => { results := [.lit (.bool false)], args := [d] }
  | _ => none }
def TlbPlaysWrongFalsely : Prop := tlbPlaysRow.holds Try.pinned (OpenSpec.ofChange tlbPlaysWrong)

/-- 'mintmarklaw11.TlbLast': WHATEVER THE INPUT: true; the input reads as it did. -/
def tlbLastSpec : ChangeSpec := { name := "tlbLast", fn := fun _ => fun
  | [d] => { results := [.lit (.bool true)], args := [d] }
  | _ => none }
def tlbLastRow : OpenClaim := { program := "ytlklhempbpphhaa", sum := "ad713d57a784498482a425719c363914b7fea0efbce63105bfd7a19c7da1c9e6", func := "mintmark/mintmarklaw11.TlbLast", spec := "tlbLast", unfollowed := true, recurses := true, plainKeys := false, apart := false }
def TlbLastSaid : Prop := tlbLastRow.holds Try.pinned (OpenSpec.ofChange tlbLastSpec)

/-- ITS FALSE NEIGHBOUR: 'it returns false'. Refute it at one input. -/
def tlbLastWrong : ChangeSpec := { name := "tlbLast", fn := fun _ => fun
  | [d] => { results := [.lit (.bool false)], args := [d] }
  | _ => none }
def TlbLastWrongFalsely : Prop := tlbLastRow.holds Try.pinned (OpenSpec.ofChange tlbLastWrong)

/-- 'mintmarklaw08.RamNumbers': WHATEVER THE INPUT: true; the input reads as it did. -/
def ramNumbersSpec : ChangeSpec := { name := "ramNumbers", fn := fun _ => fun
  | [d1, d2, d3] => { results := [.lit (.bool true)], args := [d1, d2, d3] }
  | _ => none }
def ramNumbersRow : OpenClaim := { program := "ytlklhempbpphhaa", sum := "ad713d57a784498482a425719c363914b7fea0efbce63105bfd7a19c7da1c9e6", func := "mintmark/mintmarklaw08.RamNumbers", spec := "ramNumbers", unfollowed := true, recurses := true, plainKeys := false, apart := false }
def RamNumbersSaid : Prop := ramNumbersRow.holds Try.pinned (OpenSpec.ofChange ramNumbersSpec)

/-- ITS FALSE NEIGHBOUR: 'it returns false'. Refute it at one input. -/
def ramNumbersWrong : ChangeSpec := { name := "ramNumbers", fn := fun _ => fun
  | [d1, d2, d3] => { results := [.lit (.bool false)], args := [d1, d2, d3] }
  | _ => none }
def RamNumbersWrongFalsely : Prop := ramNumbersRow.holds Try.pinned (OpenSpec.ofChange ramNumbersWrong)

/-- 'mintmarklaw30.AuditNames': WHATEVER THE INPUT: true; the input reads as it did. -/
def auditNamesSpec : ChangeSpec := { name := "auditNames", fn := fun _ => fun
  | [d1, d2] => { results := [.lit (.bool true)], args := [d1, d2] }
  | _ => none }
def auditNamesRow : OpenClaim := { program := "ytlklhempbpphhaa", sum := "ad713d57a784498482a425719c363914b7fea0efbce63105bfd7a19c7da1c9e6", func := "mintmark/mintmarklaw30.AuditNames", spec := "auditNames", inPlace := ["internal/abi.NoEscape", "internal/bytealg.MakeNoZero"], recurses := true, plainKeys := false, apart := false }
def AuditNamesSaid : Prop := auditNamesRow.holds Try.pinned (OpenSpec.ofChange auditNamesSpec)

/-- ITS FALSE NEIGHBOUR: 'it returns false'. Refute it at one input. -/
def auditNamesWrong : ChangeSpec := { name := "auditNames", fn := fun _ => fun
  | [d1, d2] => { results := [.lit (.bool false)], args := [d1, d2] }
  | _ => none }
def AuditNamesWrongFalsely : Prop := auditNamesRow.holds Try.pinned (OpenSpec.ofChange auditNamesWrong)

/-- 'mintmarklaw08.RamTags': WHATEVER THE INPUT: true; the input reads as it did. -/
def ramTagsSpec : ChangeSpec := { name := "ramTags", fn := fun _ => fun
  | [d1, d2, d3] => { results := [.lit (.bool true)], args := [d1, d2, d3] }
  | _ => none }
def ramTagsRow : OpenClaim := { program := "ytlklhempbpphhaa", sum := "ad713d57a784498482a425719c363914b7fea0efbce63105bfd7a19c7da1c9e6", func := "mintmark/mintmarklaw08.RamTags", spec := "ramTags", unfollowed := true, recurses := true, plainKeys := false, apart := false }
def RamTagsSaid : Prop := ramTagsRow.holds Try.pinned (OpenSpec.ofChange ramTagsSpec)

/-- ITS FALSE NEIGHBOUR: 'it returns false'. Refute it at one input. -/
def ramTagsWrong : ChangeSpec := { name := "ramTags", fn := fun _ => fun
  | [d1, d2, d3] => { results := [.lit (.bool false)], args := [d1, d2, d3] }
  | _ => none }
def RamTagsWrongFalsely : Prop := ramTagsRow.holds Try.pinned (OpenSpec.ofChange ramTagsWrong)

/-- 'mintmarklaw25.PaintSets': WHATEVER THE INPUT: true; the input reads as it did. -/
def paintSetsSpec : ChangeSpec := { name := "paintSets", fn := fun _ => fun
  | [d1, d2, d3] => { results := [.lit (.bool true)], args := [d1, d2, d3] }
  | _ => none }
def paintSetsRow : OpenClaim := { program := "ytlklhempbpphhaa", sum := "ad713d57a784498482a425719c363914b7fea0efbce63105bfd7a19c7da1c9e6", func := "mintmark/mintmarklaw25.PaintSets", spec := "paintSets", inPlace := ["maps.clone"], unfollowed := true, recurses := true, plainKeys := false, apart := false }
def PaintSetsSaid : Prop := paintSetsRow.holds Try.pinned (OpenSpec.ofChange paintSetsSpec)

/-- ITS FALSE NEIGHBOUR: 'it returns false'. Refute it at one input. -/
def paintSetsWrong : ChangeSpec := { name := "paintSets", fn := fun _ => fun
  | [d1, d2, d3] => { results := [.lit (.bool false)], args := [d1, d2, d3] }
  | _ => none }
def PaintSetsWrongFalsely : Prop := paintSetsRow.holds Try.pinned (OpenSpec.ofChange paintSetsWrong)

/- THE SECOND FORM. 'bulk': how many values and letters a reading holds, each counted each time it is reached (what is shared counts as often as it is met; a slice's spare places count too). A statement '..UptoSaid' is the law's where the arguments, and the package variables that the reading takes, are together of bulk at most 1048576: NARROWER than '..Said'. Prove '..Said' where nothing that the law and all that it calls make is longer than what came in: it says more and counts as full. Else prove '..UptoSaid'. A law counts once. -/
mutual
def uptoBulk {H : Type} : DataW H → Nat
  | .lit (.string bytes) => bytes.length + 1
  | .lit _ => 1
  | .nil => 1
  | .ptr d => uptoBulk d + 1
  | .slice elems spare => uptoBulkAll elems + uptoBulkAll spare + 1
  | .agg parts => uptoBulkAll parts + 1
  | .iface _ d => uptoBulk d + 1
  | .map entries => uptoBulkEntries entries + 1
  | .held _ => 1
def uptoBulkAll {H : Type} : List (DataW H) → Nat
  | [] => 0
  | d :: r => uptoBulk d + uptoBulkAll r
def uptoBulkEntries {H : Type} : List (Lit × DataW H) → Nat
  | [] => 0
  | x :: r => uptoBulkEntry x + uptoBulkEntries r
def uptoBulkEntry {H : Type} : Lit × DataW H → Nat
  | (.string bytes, d) => bytes.length + uptoBulk d + 1
  | (_, d) => uptoBulk d + 1
 end
def uptoSmall : (H : Type) → List (DataW H) → Bool := fun _ ds => decide (uptoBulkAll ds ≤ 1048576)
def OpenSpec.upto (s : _root_.Go.ChangeSpec) : _root_.Go.OpenSpec := { _root_.Go.OpenSpec.ofChange s with cond := some uptoSmall }

/-- 'mintmarklaw27.ProcBits', WHERE WHAT IT READS IS OF BULK AT MOST 1048576: true; the input reads as it did. -/
def procBitsUptoRow : OpenClaim := { program := "ytlklhempbpphhaa", sum := "ad713d57a784498482a425719c363914b7fea0efbce63105bfd7a19c7da1c9e6", func := "mintmark/mintmarklaw27.ProcBits", spec := "procBits", plainKeys := false, apart := false, narrowed := true }
def ProcBitsUptoSaid : Prop := procBitsUptoRow.holds Try.pinned (OpenSpec.upto procBitsSpec)

/-- 'mintmarklaw29.ScriptSteps', WHERE WHAT IT READS IS OF BULK AT MOST 1048576: true; the input reads as it did. -/
def scriptStepsUptoRow : OpenClaim := { program := "ytlklhempbpphhaa", sum := "ad713d57a784498482a425719c363914b7fea0efbce63105bfd7a19c7da1c9e6", func := "mintmark/mintmarklaw29.ScriptSteps", spec := "scriptSteps", unfollowed := true, recurses := true, plainKeys := false, apart := false, narrowed := true }
def ScriptStepsUptoSaid : Prop := scriptStepsUptoRow.holds Try.pinned (OpenSpec.upto scriptStepsSpec)

/-- 'mintmarklaw11.TlbSets', WHERE WHAT IT READS IS OF BULK AT MOST 1048576: true; the input reads as it did. -/
def tlbSetsUptoRow : OpenClaim := { program := "ytlklhempbpphhaa", sum := "ad713d57a784498482a425719c363914b7fea0efbce63105bfd7a19c7da1c9e6", func := "mintmark/mintmarklaw11.TlbSets", spec := "tlbSets", unfollowed := true, recurses := true, plainKeys := false, apart := false, narrowed := true }
def TlbSetsUptoSaid : Prop := tlbSetsUptoRow.holds Try.pinned (OpenSpec.upto tlbSetsSpec)

/-- 'mintmarklaw11.TlbPlays', WHERE WHAT IT READS IS OF BULK AT MOST 1048576: true; the input reads as it did. -/
def tlbPlaysUptoRow : OpenClaim := { program := "ytlklhempbpphhaa", sum := "ad713d57a784498482a425719c363914b7fea0efbce63105bfd7a19c7da1c9e6", func := "mintmark/mintmarklaw11.TlbPlays", spec := "tlbPlays", unfollowed := true, recurses := true, plainKeys := false, apart := false, narrowed := true }
def TlbPlaysUptoSaid : Prop := tlbPlaysUptoRow.holds Try.pinned (OpenSpec.upto tlbPlaysSpec)

/-- 'mintmarklaw11.TlbLast', WHERE WHAT IT READS IS OF BULK AT MOST 1048576: true; the input reads as it did. -/
def tlbLastUptoRow : OpenClaim := { program := "ytlklhempbpphhaa", sum := "ad713d57a784498482a425719c363914b7fea0efbce63105bfd7a19c7da1c9e6", func := "mintmark/mintmarklaw11.TlbLast", spec := "tlbLast", unfollowed := true, recurses := true, plainKeys := false, apart := false, narrowed := true }
def TlbLastUptoSaid : Prop := tlbLastUptoRow.holds Try.pinned (OpenSpec.upto tlbLastSpec)

/-- 'mintmarklaw08.RamNumbers', WHERE WHAT IT READS IS OF BULK AT MOST 1048576: true; the input reads as it did. -/
def ramNumbersUptoRow : OpenClaim := { program := "ytlklhempbpphhaa", sum := "ad713d57a784498482a425719c363914b7fea0efbce63105bfd7a19c7da1c9e6", func := "mintmark/mintmarklaw08.RamNumbers", spec := "ramNumbers", unfollowed := true, recurses := true, plainKeys := false, apart := false, narrowed := true }
def RamNumbersUptoSaid : Prop := ramNumbersUptoRow.holds Try.pinned (OpenSpec.upto ramNumbersSpec)

/-- 'mintmarklaw30.AuditNames', WHERE WHAT IT READS IS OF BULK AT MOST 1048576: true; the input reads as it did. -/
def auditNamesUptoRow : OpenClaim := { program := "ytlklhempbpphhaa", sum := "ad713d57a784498482a425719c363914b7fea0efbce63105bfd7a19c7da1c9e6", func := "mintmark/mintmarklaw30.AuditNames", spec := "auditNames", inPlace := ["internal/abi.NoEscape", "internal/bytealg.MakeNoZero"], recurses := true, plainKeys := false, apart := false, narrowed := true }
def AuditNamesUptoSaid : Prop := auditNamesUptoRow.holds Try.pinned (OpenSpec.upto auditNamesSpec)

/-- 'mintmarklaw08.RamTags', WHERE WHAT IT READS IS OF BULK AT MOST 1048576: true; the input reads as it did. -/
def ramTagsUptoRow : OpenClaim := { program := "ytlklhempbpphhaa", sum := "ad713d57a784498482a425719c363914b7fea0efbce63105bfd7a19c7da1c9e6", func := "mintmark/mintmarklaw08.RamTags", spec := "ramTags", unfollowed := true, recurses := true, plainKeys := false, apart := false, narrowed := true }
def RamTagsUptoSaid : Prop := ramTagsUptoRow.holds Try.pinned (OpenSpec.upto ramTagsSpec)

/-- 'mintmarklaw25.PaintSets', WHERE WHAT IT READS IS OF BULK AT MOST 1048576: true; the input reads as it did. -/
def paintSetsUptoRow : OpenClaim := { program := "ytlklhempbpphhaa", sum := "ad713d57a784498482a425719c363914b7fea0efbce63105bfd7a19c7da1c9e6", func := "mintmark/mintmarklaw25.PaintSets", spec := "paintSets", inPlace := ["maps.clone"], unfollowed := true, recurses := true, plainKeys := false, apart := false, narrowed := true }
def PaintSetsUptoSaid : Prop := paintSetsUptoRow.holds Try.pinned (OpenSpec.upto paintSetsSpec)

end Rows
end Go.Proofs.Ytlklhempbpphhaa
