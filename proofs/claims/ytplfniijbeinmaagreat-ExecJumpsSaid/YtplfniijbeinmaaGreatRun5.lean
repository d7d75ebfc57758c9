/- An instruction that loads a capability; conditions: those of each theorem. -/
import Derived.Test.YtplfniijbeinmaaGreatRun4
namespace Go.Proofs.YtplfniijbeinmaaGreat
open Go.Fx
set_option maxRecDepth 100000
set_option linter.unusedSimpArgs false
set_option linter.unusedVariables false
theorem withX_idem (c : Nat → Cq) (n : Nat) (x : Cq) : withX (withX c n x) n x = withX c n x := by
  unfold withX
  split
  · funext j
    unfold setX
    split <;> rfl
  · rfl
theorem cq_zero : [.bool false, .int .u64 0, .int .u64 0] = cq Cq.zero := rfl
theorem cq_put2 (d u : Cq) : cq d ++ List.drop (cq d).length (cq u) = cq d := by simp [cq, cpC]
end Go.Proofs.YtplfniijbeinmaaGreat
