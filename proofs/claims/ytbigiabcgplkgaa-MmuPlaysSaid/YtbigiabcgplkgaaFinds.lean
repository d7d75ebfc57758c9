/- A walk finds what the document says; conditions: those of each theorem. -/
import Derived.Test.YtbigiabcgplkgaaWArgs
namespace Go.Proofs.Ytbigiabcgplkgaa
open Go.Fx
set_option maxRecDepth 100000
set_option linter.unusedSimpArgs false
set_option linter.unusedVariables false
theorem eqlR {f g : Nat → Bool} {n m : Nat} (x y : Operand) (w : World) : (binV .eql 37 x y (.agg (entC f n).toArray) (.agg (entC g m).toArray)).run Try.prog w = .ok (.bool (eqE f n g m)) w := by
  exact RM_eql_37 _ _ _ _ _ _ _ _ _ _ _ _ _ _ _ _ _ _ _ _ _ _ _ _ _ _ x y w
theorem eqE_self (f : Nat → Bool) (n : Nat) : eqE f n f n = true := eqE_iff.2 ⟨fun _ _ => rfl, rfl⟩
end Go.Proofs.Ytbigiabcgplkgaa
