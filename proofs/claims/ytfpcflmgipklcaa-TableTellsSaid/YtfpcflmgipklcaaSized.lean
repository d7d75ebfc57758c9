/- A slice that is read takes no more bytes than the form's own reach; conditions: those of each theorem. -/
import Derived.Test.YtfpcflmgipklcaaArgs
import Derived.SizedLaws
namespace Go.Proofs.Ytfpcflmgipklcaa
open Go.Fx Go.ChangeShapes Go.WideShapes
set_option linter.unusedVariables false
theorem sized_rows {H : Type} {enc : TypeId × Value → H} {P : Program} {w : World} {base : Nat} {spare : Nat → Bool} {held : Bool} {t e n j : Nat} {v : Value} {d : DataW H} {ps : List MemPlace} {rows : List (List Value)} {ts : List TypeId} {ds : List (DataW H)} (ht : P.underlying t = some (.slice e)) (h : DataW.Trod enc P w base spare held t v d ps) (hv : RowsAt w v n rows)
    (hsz : (DataW.weightsEach P ts ds).all (· ≤ reachBytes) = true) (hj : ts[j]? = some t) (hd : ds[j]? = some d) : rows.length * P.bytesOf e ≤ reachBytes := by
  obtain ⟨fuel, hf⟩ := h
  obtain ⟨a, cap, rfl, -, -⟩ := hv
  have hf' : DataW.trod enc P w base spare held fuel t [.slice a rows.length cap] = some (d, ps) := by simpa [Value.cells] using hf
  rcases Deep.open_slice ht hf' with ⟨h1, h2⟩ | ⟨a', len, cap', m, k, D, Pl, h1, -, -, -, -, h2, -⟩
  · simp only [List.cons.injEq, Value.slice.injEq, and_true] at h1
    rw [h1.2.1, Nat.zero_mul]
    exact Nat.zero_le _
  · simp only [List.cons.injEq, Value.slice.injEq, and_true] at h1
    rw [Prod.mk.injEq] at h2
    obtain ⟨rfl, -⟩ := h2
    have := sized_slice hsz hj hd ht
    rw [List.length_map, List.length_range] at this
    rw [h1.2.1]
    exact Nat.le_trans (Nat.mul_le_mul_right _ (Nat.le_add_right _ _)) this
end Go.Proofs.Ytfpcflmgipklcaa
