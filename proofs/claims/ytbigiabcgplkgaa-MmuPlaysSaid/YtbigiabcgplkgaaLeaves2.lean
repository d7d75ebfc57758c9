/- A page is found by its three indices, and by no others: the walk; conditions: those of each theorem. -/
import Derived.Test.YtbigiabcgplkgaaLeaves
namespace Go.Proofs.Ytbigiabcgplkgaa
open Go.Fx
set_option maxRecDepth 100000
set_option linter.unusedSimpArgs false
set_option linter.unusedVariables false
theorem foldV1 : [.bool true, .bool false, .bool false, .bool false, .bool false, .bool false, .bool false, .bool false, .bool false, .bool false, .bool false, .bool false, .int .u64 1] = entC fV 1 := by simp [entC, fV]
theorem foldV2 : [.bool true, .bool false, .bool false, .bool false, .bool false, .bool false, .bool false, .bool false, .bool false, .bool false, .bool false, .bool false, .int .u64 2] = entC fV 2 := by simp [entC, fV]
theorem set12 (f : Nat → Bool) (n : Nat) : (entC f n).set 12 (.int .u64 7) = entC f 7 := by simp [entC]
theorem wkR_form (o : Option (Nat × Nat)) : ∃ (g : Nat → Bool) (n a : Nat) (e : Int), wkR o = .tuple #[.agg (fdC g n a).toArray, .int .i64 e] ∧ (o = none → e = 1) ∧ (∀ x at0, o = some (x, at0) → e = 0 ∧ g = fl x ∧ n = fr x ∧ a = at0) := by
  cases o with
  | none => exact ⟨noF, 0, 0, 1, rfl, fun _ => rfl, fun _ _ h => by cases h⟩
  | some p => exact ⟨fl p.1, fr p.1, p.2, 0, rfl, fun h => (by cases h), fun x a h => by cases h; exact ⟨rfl, rfl, rfl, rfl⟩⟩
theorem neqE {f g : Nat → Bool} {n m : Nat} (x y : Operand) (w : World) : (binV .neq 32 x y (.agg (entC f n).toArray) (.agg (entC g m).toArray)).run Try.prog w = .ok (.bool (!eqE f n g m)) w := by
  exact RM_neq_32 _ _ _ _ _ _ _ _ _ _ _ _ _ _ _ _ _ _ _ _ _ _ _ _ _ _ x y w
end Go.Proofs.Ytbigiabcgplkgaa
