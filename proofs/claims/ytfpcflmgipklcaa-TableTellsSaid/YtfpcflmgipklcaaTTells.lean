/- TableTells, its contract; conditions: those of each theorem. -/
import Derived.Test.YtfpcflmgipklcaaTTells6
import Derived.Test.YtfpcflmgipklcaaSized
namespace Go.Proofs.Ytfpcflmgipklcaa
open Go.Fx
theorem bytesAct : Try.prog.bytesOf 42 = 48 := by kernel_rfl
theorem tells_law {w : World} {v : Value} {l : List ActE} (hv : RowsAt w v 16 (l.map actC)) (hl : ∀ c ∈ l, c.va < 18446744073709551616 ∧ c.x < 18446744073709551616) (hz : (l.map actC).length * Try.prog.bytesOf 42 ≤ reachBytes) {most : Int} {K : Value → World → Prop} (hK : ∀ w', Ext [] w w' → K (.bool true) w') :
    callsK Try.prog 5 #[v, .int .i64 most] w K := by
  rw [bytesAct, List.length_map] at hz
  have : reachBytes < 140737488355328 := by decide
  exact tells_spec hv hl (by omega) hK
end Go.Proofs.Ytfpcflmgipklcaa
