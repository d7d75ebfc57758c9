/-
  No cell of these rows narrows 'for every input' (looked for: loops, veiled, ifaces, maps, wideKeys, modest, calm, conditions, laid).
  DERIVED. THE GIVEN ROWS OF THIS SEAT. 3 by the template 'for every input the law returns true; each argument reads behind the call as it read before'; 0 by the template 'total and deterministic' (their statements: YtplfniijbeinmaaGreatTotals.lean).
  GIVEN WITH THE SEED: the statements are not yours to turn. If you find one false, say at which input.
  Laid BY PROGRAM, IN A SANDBOX (cutbox-rows.mjs): the forced cells as the released guide's own fill.sh prints them over the translation 456519992a803bd2… (all of the seat's roots in one cut). By AI agents, Wed Nov 11 2026. No macro, syntax, notation, axiom, sorry.
-/
import Derived.Test.YtplfniijbeinmaaGreatChecked
import GoSem.Claim
import GoSem.ClaimJoined
import GoSem.ClaimMapViews
import Derived.JoinedTies
import Derived.KernelRfl
namespace Go.Proofs.YtplfniijbeinmaaGreat
/- THE CELL 'sum', in the pinned program and in every row, IS THE sha256 OF THE DUMP (.gsa) THAT YtplfniijbeinmaaGreatProg.lean LOADS. Nothing in Lean hashes anything: it is a label: what it is worth is what the hold of that sum in a sandbox is worth. -/
noncomputable def Tryz.pinned : Pinned := { name := "ytplfniijbeinmaagreat", sum := "456519992a803bd238c5142f682053016a969786454f3ff26c558e1778c63dad", checked := Tryz.checked }
namespace Rows
def none {H : Type} : Left H := { results := [], args := [] }

/-- 'mintmarklaw17.ExecLoads': WHATEVER THE INPUT: true; the input reads as it did. -/
def execLoadsSpec : ChangeSpec := { name := "execLoads", fn := fun _ => fun
  | [d1, d2, d3] => { results := [.lit (.bool true)], args := [d1, d2, d3] }
  | _ => none }
def execLoadsRow : OpenClaim := { program := "ytplfniijbeinmaagreat", sum := "456519992a803bd238c5142f682053016a969786454f3ff26c558e1778c63dad", func := "mintmark/mintmarklaw17.ExecLoads", spec := "execLoads", inPlace := ["math/bits.Add64"], unfollowed := true, recurses := true, apart := false }
def ExecLoadsSaid : Prop := execLoadsRow.holds Tryz.pinned (OpenSpec.ofChange execLoadsSpec)

/-- ITS FALSE NEIGHBOUR: 'it returns false'. Refute it at one input. -/
def execLoadsWrong : ChangeSpec := { name := "execLoads", fn := fun _ => fun
  | [d1, d2, d3] => { results := [.lit (.bool false)], args := [d1, d2, d3] }
  | _ => none }
def ExecLoadsWrongFalsely : Prop := execLoadsRow.holds Tryz.pinned (OpenSpec.ofChange execLoadsWrong)

/-- 'mintmarklaw17.ExecNumbers': WHATEVER THE INPUT: true; the input reads as it did. -/
def execNumbersSpec : ChangeSpec := { name := "execNumbers", fn := fun _ => fun
  | [d1, d2] => { results := [.lit (.bool true)], args := [d1, d2] }
  | _ => none }
def execNumbersRow : OpenClaim := { program := "ytplfniijbeinmaagreat", sum := "456519992a803bd238c5142f682053016a969786454f3ff26c558e1778c63dad", func := "mintmark/mintmarklaw17.ExecNumbers", spec := "execNumbers", inPlace := ["math/bits.Add64"], unfollowed := true, recurses := true, apart := false }
def ExecNumbersSaid : Prop := execNumbersRow.holds Tryz.pinned (OpenSpec.ofChange execNumbersSpec)

/-- ITS FALSE NEIGHBOUR: 'it returns false'. Refute it at one input. -/
def execNumbersWrong : ChangeSpec := { name := "execNumbers", fn := fun _ => fun
  | [d1, d2] => { results := [.lit (.bool false)], args := [d1, d2] }
  | _ => none }
def ExecNumbersWrongFalsely : Prop := execNumbersRow.holds Tryz.pinned (OpenSpec.ofChange execNumbersWrong)

/-- 'mintmarklaw17.ExecJumps': WHATEVER THE INPUT: true; the input reads as it did. -/
def execJumpsSpec : ChangeSpec := { name := "execJumps", fn := fun _ => fun
  | [d1, d2, d3] => { results := [.lit (.bool true)], args := [d1, d2, d3] }
  | _ => none }
def execJumpsRow : OpenClaim := { program := "ytplfniijbeinmaagreat", sum := "456519992a803bd238c5142f682053016a969786454f3ff26c558e1778c63dad", func := "mintmark/mintmarklaw17.ExecJumps", spec := "execJumps", inPlace := ["math/bits.Add64"], unfollowed := true, recurses := true, apart := false }
def ExecJumpsSaid : Prop := execJumpsRow.holds Tryz.pinned (OpenSpec.ofChange execJumpsSpec)

/-- ITS FALSE NEIGHBOUR: 'it returns false'. Refute it at one input. -/
def execJumpsWrong : ChangeSpec := { name := "execJumps", fn := fun _ => fun
  | [d1, d2, d3] => { results := [.lit (.bool false)], args := [d1, d2, d3] }
  | _ => none }
def ExecJumpsWrongFalsely : Prop := execJumpsRow.holds Tryz.pinned (OpenSpec.ofChange execJumpsWrong)

/- THE SECOND FORM. 'bulk': how many values and letters a reading holds, each counted each time it is reached (what is shared counts as often as it is met; a slice's spare places count too). A statement '..UptoSaid' is the law's where the arguments, and the package variables that the reading takes, are together of bulk at most 1048576: NARROWER than '..Said'. Prove '..Said' where nothing that the law and all that it calls make is longer than what came in: it says more and counts as full. Else prove '..UptoSaid'. A law counts once. -/
mutual
def uptoBulk {H : Type} : DataW H → Nat
  | .lit (.string bytes) => bytes.length + 1
  | .lit _ => 1
  | .nil => 1
  | .ptr d => uptoBulk d + 1
  | .slice elems spare => uptoBulkAll elems + uptoBulkAll spare + 1
  | .agg parts => uptoBulkAll parts + 1
  | .iface _ d => uptoBulk d + 1
  | .map entries => uptoBulkEntries entries + 1
  | .held _ => 1
def uptoBulkAll {H : Type} : List (DataW H) → Nat
  | [] => 0
  | d :: r => uptoBulk d + uptoBulkAll r
def uptoBulkEntries {H : Type} : List (Lit × DataW H) → Nat
  | [] => 0
  | x :: r => uptoBulkEntry x + uptoBulkEntries r
def uptoBulkEntry {H : Type} : Lit × DataW H → Nat
  | (.string bytes, d) => bytes.length + uptoBulk d + 1
  | (_, d) => uptoBulk d + 1
 end
def uptoSmall : (H : Type) → List (DataW H) → Bool := fun _ ds => decide (uptoBulkAll ds ≤ 1048576)
def OpenSpec.upto (s : _root_.Go.ChangeSpec) : _root_.Go.OpenSpec := { _root_.Go.OpenSpec.ofChange s with cond := some uptoSmall }

/-- 'mintmarklaw17.ExecLoads', WHERE WHAT IT READS IS OF BULK AT MOST 1048576: true; the input reads as it did. -/
def execLoadsUptoRow : OpenClaim := { program := "ytplfniijbeinmaagreat", sum := "456519992a803bd238c5142f682053016a969786454f3ff26c558e1778c63dad", func := "mintmark/mintmarklaw17.ExecLoads", spec := "execLoads", inPlace := ["math/bits.Add64"], unfollowed := true, recurses := true, apart := false, narrowed := true }
def ExecLoadsUptoSaid : Prop := execLoadsUptoRow.holds Tryz.pinned (OpenSpec.upto execLoadsSpec)

/-- 'mintmarklaw17.ExecNumbers', WHERE WHAT IT READS IS OF BULK AT MOST 1048576: true; the input reads as it did. -/
def execNumbersUptoRow : OpenClaim := { program := "ytplfniijbeinmaagreat", sum := "456519992a803bd238c5142f682053016a969786454f3ff26c558e1778c63dad", func := "mintmark/mintmarklaw17.ExecNumbers", spec := "execNumbers", inPlace := ["math/bits.Add64"], unfollowed := true, recurses := true, apart := false, narrowed := true }
def ExecNumbersUptoSaid : Prop := execNumbersUptoRow.holds Tryz.pinned (OpenSpec.upto execNumbersSpec)

/-- 'mintmarklaw17.ExecJumps', WHERE WHAT IT READS IS OF BULK AT MOST 1048576: true; the input reads as it did. -/
def execJumpsUptoRow : OpenClaim := { program := "ytplfniijbeinmaagreat", sum := "456519992a803bd238c5142f682053016a969786454f3ff26c558e1778c63dad", func := "mintmark/mintmarklaw17.ExecJumps", spec := "execJumps", inPlace := ["math/bits.Add64"], unfollowed := true, recurses := true, apart := false, narrowed := true }
def ExecJumpsUptoSaid : Prop := execJumpsUptoRow.holds Tryz.pinned (OpenSpec.upto execJumpsSpec)

end Rows
end Go.Proofs.YtplfniijbeinmaaGreat
