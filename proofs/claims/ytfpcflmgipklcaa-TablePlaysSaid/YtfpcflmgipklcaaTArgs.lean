/- Entries, lays and small arrays as a law's arguments; conditions: those of each theorem. -/
import Derived.Test.YtfpcflmgipklcaaMoves22
import Derived.Test.YtfpcflmgipklcaaArgs
namespace Go.Proofs.Ytfpcflmgipklcaa
open Go.Fx Go.ChangeShapes Go.WideShapes
set_option maxRecDepth 100000
set_option linter.unusedSimpArgs false
set_option linter.unusedVariables false
theorem u64_of {n : Int} (h : (Lit.int .u64 n).wf = true) : 0 ≤ n ∧ n < 18446744073709551616 := by
  have : 0 ≤ n ∧ n ≤ 18446744073709551615 := by simpa [Lit.wf, IntKind.min, IntKind.max, IntKind.signed, IntKind.bits] using h
  omega
theorem cellsE : Try.prog.cellsOf 40 = 13 := by kernel_rfl
theorem cellsU : Try.prog.cellsOf 23 = 1 := by kernel_rfl
theorem cellsI : Try.prog.cellsOf 3 = 1 := by kernel_rfl
theorem cellsB : Try.prog.cellsOf 4 = 1 := by kernel_rfl
theorem open_entry {H : Type} {enc : TypeId × Value → H} {w : World} {base fuel : Nat} {spare : Nat → Bool} {held : Bool} {cs : List Value} {x : DataW H × List MemPlace} (h : DataW.trod enc Try.prog w base spare held fuel 40 cs = some x) : ∃ (f : Nat → Bool) (n : Nat), cs = entC f n ∧ n < 18446744073709551616 := by
  have hl := (fields_of Try.underlying40 h).1
  rw [cellsE] at hl
  obtain ⟨b0, h0⟩ := field_bool Try.underlying40 h 0 0 rfl Try.underlying4 cellsB
  obtain ⟨b1, h1⟩ := field_bool Try.underlying40 h 1 1 rfl Try.underlying4 cellsB
  obtain ⟨b2, h2⟩ := field_bool Try.underlying40 h 2 2 rfl Try.underlying4 cellsB
  obtain ⟨b3, h3⟩ := field_bool Try.underlying40 h 3 3 rfl Try.underlying4 cellsB
  obtain ⟨b4, h4⟩ := field_bool Try.underlying40 h 4 4 rfl Try.underlying4 cellsB
  obtain ⟨b5, h5⟩ := field_bool Try.underlying40 h 5 5 rfl Try.underlying4 cellsB
  obtain ⟨b6, h6⟩ := field_bool Try.underlying40 h 6 6 rfl Try.underlying4 cellsB
  obtain ⟨b7, h7⟩ := field_bool Try.underlying40 h 7 7 rfl Try.underlying4 cellsB
  obtain ⟨b8, h8⟩ := field_bool Try.underlying40 h 8 8 rfl Try.underlying4 cellsB
  obtain ⟨b9, h9⟩ := field_bool Try.underlying40 h 9 9 rfl Try.underlying4 cellsB
  obtain ⟨b10, h10⟩ := field_bool Try.underlying40 h 10 10 rfl Try.underlying4 cellsB
  obtain ⟨b11, h11⟩ := field_bool Try.underlying40 h 11 11 rfl Try.underlying4 cellsB
  obtain ⟨n, h12, w12⟩ := field_int Try.underlying40 h 12 12 rfl Try.underlying23 cellsU
  have hn := u64_of w12
  match cs, hl with
  | [c0, c1, c2, c3, c4, c5, c6, c7, c8, c9, c10, c11, c12], _ =>
    simp at h0 h1 h2 h3 h4 h5 h6 h7 h8 h9 h10 h11 h12
    subst h0 h1 h2 h3 h4 h5 h6 h7 h8 h9 h10 h11 h12
    refine ⟨fun j => ([b0, b1, b2, b3, b4, b5, b6, b7, b8, b9, b10, b11][j]?).getD false, n.toNat, ?_, by omega⟩
    have e : ((n.toNat : Nat) : Int) = n := by omega
    simp [entC, e]
structure EntE where
  f : Nat → Bool
  n : Nat
def entE (e : EntE) : List Value := entC e.f e.n
theorem argEntry {H : Type} {enc : TypeId × Value → H} {w : World} {base b0 : Nat} {spare : Nat → Bool} {held : Bool} {r : Reach} {v : Value} {d : DataW H} {ps : List MemPlace} (hval : Value.okWide Try.prog w r b0 40 v) (h : DataW.Trod enc Try.prog w base spare held 40 v d ps) :
    ∃ e : EntE, v = .agg (entE e).toArray ∧ e.n < 18446744073709551616 := by
  simp only [Value.okWide, Try.underlying40] at hval
  obtain ⟨cs, rfl, -, -⟩ := hval
  obtain ⟨fuel, x, hx⟩ := agg_trod h
  have e : (Value.agg cs).cells.toList = cs.toList := by simp [Value.cells]
  rw [e] at hx
  obtain ⟨f, n, h1, hn⟩ := open_entry hx
  obtain ⟨l⟩ := cs
  simp only at h1
  subst h1
  exact ⟨⟨f, n⟩, rfl, hn⟩
def b2C (p : Bool × Bool) : List Value := [.bool p.1, .bool p.2]
def i2C (p : Int × Int) : List Value := [.int .i64 p.1, .int .i64 p.2]
def i3C (p : Int × Int × Int) : List Value := [.int .i64 p.1, .int .i64 p.2.1, .int .i64 p.2.2]
theorem moves_law {w : World} {va : Int} (hva : 0 ≤ va ∧ va < 18446744073709551616) {e e2 : EntE} (h1 : e.n < 18446744073709551616) (h2 : e2.n < 18446744073709551616) {K : Value → World → Prop} (hK : ∀ w', Ext [] w w' → K (.bool true) w') :
    callsK Try.prog 4 #[.int .u64 va, .agg (entE e).toArray, .agg (entE e2).toArray] w K := by
  obtain ⟨n, rfl⟩ : ∃ n : Nat, va = n := ⟨va.toNat, by omega⟩
  exact moves_spec (by omega) h1 h2 hK
end Go.Proofs.Ytfpcflmgipklcaa
