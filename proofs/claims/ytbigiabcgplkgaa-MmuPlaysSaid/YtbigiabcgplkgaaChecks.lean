/- An entry lets any access be, or not, as the document says; conditions: those of each theorem. -/
import Derived.Test.YtbigiabcgplkgaaMarks2
namespace Go.Proofs.Ytbigiabcgplkgaa
open Go.Fx
set_option maxRecDepth 100000
set_option linter.unusedSimpArgs false
set_option linter.unusedVariables false
theorem pN_pickE {P : Program} {c : Bool} {a b : Value} {K : Value → Prop} : pN P (pickN (.bool c) a b) K = K (if c then a else b) := by
  apply propext
  constructor
  · rintro ⟨v, h, hk⟩
    have h1 := h default
    have h2 : (pickN (.bool c) a b).run P default = .ok (.value (if c then a else b)) default := by cases c <;> rfl
    have h3 := h1.symm.trans h2
    have h4 : v = if c then a else b := by
      injection h3 with h4
      injection h4
    exact h4 ▸ hk
  · exact pN_pick
theorem gdPR : (∀ (A : (Value → Prop) → Prop) (K : Value → Prop), gdP (yb (.bool true)) true A K = A K) ∧ (∀ (A : (Value → Prop) → Prop) (K : Value → Prop), gdP (yb (.bool false)) false A K = A K) ∧ (∀ (A : (Value → Prop) → Prop) (K : Value → Prop), gdP (yb (.bool false)) true A K = K undef) ∧
    (∀ (A : (Value → Prop) → Prop) (K : Value → Prop), gdP (yb (.bool true)) false A K = K undef) ∧ (∀ (want : Bool) (A : (Value → Prop) → Prop) (K : Value → Prop), gdP (yb undef) want A K = K undef) :=
  ⟨fun _ _ => gdP_yes, fun _ _ => gdP_yes, fun _ _ => gdP_no1, fun _ _ => gdP_no2, fun _ _ _ => by simp [gdP, yb, undef]⟩
theorem allI_intro {I : World → Prop} {G : World → Prop} (h : ∀ w, I w → G w) : allI I G := h
end Go.Proofs.Ytbigiabcgplkgaa
