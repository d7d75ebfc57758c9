/- A capability as a law's argument, and the law of tags; conditions: those of each theorem. -/
import Derived.Test.YtlklhempbpphhaaRTags
namespace Go.Proofs.Ytlklhempbpphhaa
open Go.Fx Go.ChangeShapes Go.WideShapes
set_option maxRecDepth 100000
set_option linter.unusedSimpArgs false
set_option linter.unusedVariables false
theorem argCap {H : Type} {enc : TypeId × Value → H} {w : World} {base b0 : Nat} {spare : Nat → Bool} {held : Bool} {r : Reach} {v : Value} {d : DataW H} {ps : List MemPlace} (hval : Value.okWide Try.prog w r b0 109 v) (h : DataW.Trod enc Try.prog w base spare held 109 v d ps) :
    ∃ c : Cp, v = .agg (cpC c).toArray ∧ (U64 c.mt ∧ U64 c.ad) := by
  simp only [Value.okWide, Try.underlying109] at hval
  obtain ⟨cs, rfl, -, -⟩ := hval
  obtain ⟨fuel, x, hx⟩ := agg_trod h
  have cc : Try.prog.cellsOf 109 = 3 := by kernel_rfl
  have cb : Try.prog.cellsOf 4 = 1 := by kernel_rfl
  have cu : Try.prog.cellsOf 22 = 1 := by kernel_rfl
  have e : (Value.agg cs).cells.toList = cs.toList := by simp [Value.cells]
  rw [e] at hx
  have hl := (fields_of Try.underlying109 hx).1
  rw [cc] at hl
  obtain ⟨t, h0⟩ := field_bool Try.underlying109 hx 0 0 rfl Try.underlying4 cb
  obtain ⟨mt, h1, w1⟩ := field_int Try.underlying109 hx 1 1 rfl Try.underlying22 cu
  obtain ⟨ad, h2, w2⟩ := field_int Try.underlying109 hx 2 2 rfl Try.underlying22 cu
  have hu : ∀ n : Int, (Lit.int .u64 n).wf = true → U64 n := by
    intro n hn
    have : 0 ≤ n ∧ n ≤ 18446744073709551615 := by simpa [Lit.wf, IntKind.min, IntKind.max, IntKind.signed, IntKind.bits] using hn
    unfold U64
    omega
  refine ⟨⟨t, mt, ad⟩, ?_, hu _ w1, hu _ w2⟩
  obtain ⟨l⟩ := cs
  simp only at hl h0 h1 h2
  match l, hl with
  | [c0, c1, c2], _ =>
    simp at h0 h1 h2
    subst h0 h1 h2
    rfl
theorem tags_law {w : World} {c : Cp} {a1 a2 : Int} (h : U64 c.mt ∧ U64 c.ad) {K : Value → World → Prop} (hK : ∀ w', Ext [] w w' → K (.bool true) w') : callsK Try.prog 10 #[.agg (cpC c).toArray, .int .i64 a1, .int .i64 a2] w K :=
  tags_spec h.1 h.2 hK
end Go.Proofs.Ytlklhempbpphhaa
