/- TablePlays, its contract; conditions: those of each theorem. -/
import Derived.Test.YtfpcflmgipklcaaTPlays4
namespace Go.Proofs.Ytfpcflmgipklcaa
open Go.Fx
theorem plays_law {w : World} {v : Value} {l : List ActE} (hv : RowsAt w v 16 (l.map actC)) (hl : ∀ c ∈ l, c.va < 18446744073709551616 ∧ c.x < 18446744073709551616) {va : Int} (hva : 0 ≤ va ∧ va < 18446744073709551616) {K : Value → World → Prop} (hK : ∀ w', Ext [] w w' → K (.bool true) w') :
    callsK Try.prog 3 #[v, .int .u64 va] w K := by
  obtain ⟨n, rfl⟩ : ∃ n : Nat, va = n := ⟨va.toNat, by omega⟩
  exact plays_spec hv hl (by omega) hK
end Go.Proofs.Ytfpcflmgipklcaa
