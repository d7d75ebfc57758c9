/- A capability as an argument; conditions: those of each theorem. -/
import Derived.Test.YtplfniijbeinmaaGreatLoads17
namespace Go.Proofs.YtplfniijbeinmaaGreat
open Go.Fx Go.ChangeShapes Go.WideShapes
set_option maxRecDepth 100000
set_option linter.unusedSimpArgs false
set_option linter.unusedVariables false
theorem wfN_u64 {n : Int} (h : (Lit.int .u64 n).wf = true) : 0 ≤ n ∧ n < 18446744073709551616 := by
  have : 0 ≤ n ∧ n ≤ 18446744073709551615 := by simpa [Lit.wf, IntKind.min, IntKind.max, IntKind.signed, IntKind.bits] using h
  omega
theorem argCap {H : Type} {enc : TypeId × Value → H} {w : World} {base b0 : Nat} {spare : Nat → Bool} {held : Bool} {r : Reach} {v : Value} {d : DataW H} {ps : List MemPlace} (hval : Value.okWide Tryz.prog w r b0 24 v) (h : DataW.Trod enc Tryz.prog w base spare held 24 v d ps) :
    ∃ c : Cq, v = .agg (cq c).toArray ∧ (c.m < 18446744073709551616 ∧ c.a < 18446744073709551616) := by
  simp only [Value.okWide, Tryz.underlying24] at hval
  obtain ⟨cs, rfl, -, -⟩ := hval
  obtain ⟨fuel, x, hx⟩ := agg_trod h
  have cc : Tryz.prog.cellsOf 24 = 3 := by kernel_rfl
  have cb : Tryz.prog.cellsOf 4 = 1 := by kernel_rfl
  have cu : Tryz.prog.cellsOf 22 = 1 := by kernel_rfl
  have e : (Value.agg cs).cells.toList = cs.toList := by simp [Value.cells]
  rw [e] at hx
  have hl := (fields_of Tryz.underlying24 hx).1
  rw [cc] at hl
  obtain ⟨t, h0⟩ := field_bool Tryz.underlying24 hx 0 0 rfl Tryz.underlying4 cb
  obtain ⟨mt, h1, w1⟩ := field_int Tryz.underlying24 hx 1 1 rfl Tryz.underlying22 cu
  obtain ⟨ad, h2, w2⟩ := field_int Tryz.underlying24 hx 2 2 rfl Tryz.underlying22 cu
  have hu : ∀ n : Int, (Lit.int .u64 n).wf = true → U64 n := by
    intro n hn
    have : 0 ≤ n ∧ n ≤ 18446744073709551615 := by simpa [Lit.wf, IntKind.min, IntKind.max, IntKind.signed, IntKind.bits] using hn
    unfold U64
    omega
  have u1 := hu _ w1
  have u2 := hu _ w2
  unfold U64 at u1 u2
  refine ⟨⟨t, mt.toNat, ad.toNat⟩, ?_, by show mt.toNat < _; omega, by show ad.toNat < _; omega⟩
  have e1 : ((mt.toNat : Nat) : Int) = mt := by omega
  have e2 : ((ad.toNat : Nat) : Int) = ad := by omega
  have e3 : cq ⟨t, mt.toNat, ad.toNat⟩ = [.bool t, .int .u64 mt, .int .u64 ad] := by
    show ([.bool t, .int .u64 ((mt.toNat : Nat) : Int), .int .u64 ((ad.toNat : Nat) : Int)] : List Value) = _
    rw [e1, e2]
  rw [e3]
  obtain ⟨l⟩ := cs
  simp only at hl h0 h1 h2
  match l, hl with
  | [c0, c1, c2], _ =>
    simp at h0 h1 h2
    subst h0 h1 h2
    rfl
end Go.Proofs.YtplfniijbeinmaaGreat
