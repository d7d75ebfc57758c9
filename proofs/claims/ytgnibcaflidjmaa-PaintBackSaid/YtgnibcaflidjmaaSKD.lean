/- Spans as a law's arguments; conditions: those of each theorem. -/
import Derived.Test.YtgnibcaflidjmaaSKB
import Derived.Test.YtgnibcaflidjmaaArgs
namespace Go.Proofs.Ytgnibcaflidjmaa
open Go.Fx Go.ChangeShapes Go.WideShapes
set_option maxRecDepth 100000
set_option linter.unusedSimpArgs false
set_option linter.unusedVariables false
theorem wf_u64 {n : Int} (h : (Lit.int .u64 n).wf = true) : 0 ≤ n ∧ n < 18446744073709551616 := by
  have : 0 ≤ n ∧ n ≤ 18446744073709551615 := by simpa [Lit.wf, IntKind.min, IntKind.max, IntKind.signed, IntKind.bits] using h
  omega
theorem argSpan {H : Type} {enc : TypeId × Value → H} {w : World} {base b0 : Nat} {spare : Nat → Bool} {held : Bool} {r : Reach} {v : Value} {d : DataW H} {ps : List MemPlace} (hval : Value.okWide Try.prog w r b0 47 v) (h : DataW.Trod enc Try.prog w base spare held 47 v d ps) :
    ∃ s : Nat × Nat, v = .agg (spC s).toArray ∧ spOk s := by
  simp only [Value.okWide, Try.underlying47] at hval
  obtain ⟨cs, rfl, -, -⟩ := hval
  obtain ⟨fuel, x, hx⟩ := agg_trod h
  have cc : Try.prog.cellsOf 47 = 2 := by kernel_rfl
  have cu : Try.prog.cellsOf 28 = 1 := by kernel_rfl
  have e : (Value.agg cs).cells.toList = cs.toList := by simp [Value.cells]
  rw [e] at hx
  have hl := (fields_of Try.underlying47 hx).1
  rw [cc] at hl
  obtain ⟨a, h0, w0⟩ := field_int Try.underlying47 hx 0 0 rfl Try.underlying28 cu
  obtain ⟨b, h1, w1⟩ := field_int Try.underlying47 hx 1 1 rfl Try.underlying28 cu
  have u0 := wf_u64 w0
  have u1 := wf_u64 w1
  obtain ⟨l⟩ := cs
  match l, hl with
  | [c0, c1], _ =>
    simp at h0 h1
    subst h0 h1
    refine ⟨(a.toNat, b.toNat), ?_, ?_, ?_⟩
    · have e0 : ((a.toNat : Nat) : Int) = a := by omega
      have e1 : ((b.toNat : Nat) : Int) = b := by omega
      simp [spC, e0, e1]
    · show a.toNat < _; omega
    · show b.toNat < _; omega
theorem cellsSpan : Try.prog.cellsOf 47 = 2 := by kernel_rfl
theorem open_span {H : Type} {enc : TypeId × Value → H} {w : World} {base fuel : Nat} {spare : Nat → Bool} {held : Bool} {cs : List Value} {x : DataW H × List MemPlace} (h : DataW.trod enc Try.prog w base spare held fuel 47 cs = some x) : ∃ s : Nat × Nat, cs = spC s ∧ spOk s := by
  have cu : Try.prog.cellsOf 28 = 1 := by kernel_rfl
  have hl := (fields_of Try.underlying47 h).1
  rw [cellsSpan] at hl
  obtain ⟨a, h0, w0⟩ := field_int Try.underlying47 h 0 0 rfl Try.underlying28 cu
  obtain ⟨b, h1, w1⟩ := field_int Try.underlying47 h 1 1 rfl Try.underlying28 cu
  have u0 := wf_u64 w0
  have u1 := wf_u64 w1
  match cs, hl with
  | [c0, c1], _ =>
    simp at h0 h1
    subst h0 h1
    refine ⟨(a.toNat, b.toNat), ?_, ?_, ?_⟩
    · have e0 : ((a.toNat : Nat) : Int) = a := by omega
      have e1 : ((b.toNat : Nat) : Int) = b := by omega
      simp [spC, e0, e1]
    · show a.toNat < _; omega
    · show b.toNat < _; omega
theorem argSpans {H : Type} {enc : TypeId × Value → H} {w : World} {base b0 : Nat} {spare : Nat → Bool} {held : Bool} {r : Reach} {v : Value} {d : DataW H} {ps : List MemPlace} (hval : Value.okWide Try.prog w r b0 55 v) (h : DataW.Trod enc Try.prog w base spare held 55 v d ps) :
    ∃ l : List (Nat × Nat), RowsAt w v 2 (l.map spC) ∧ ∀ c ∈ l, spOk c := by
  obtain ⟨fuel, x, hx⟩ := slice_trod Try.underlying55 hval h
  obtain ⟨v', rows, he, hr, hall⟩ := open_rows Try.underlying55 cellsSpan (by omega) hx
  have : ∃ l : List (Nat × Nat), rows = l.map spC ∧ ∀ c ∈ l, spOk c := by
    clear hr
    induction rows with
    | nil => exact ⟨[], rfl, by simp⟩
    | cons r rows ih =>
      obtain ⟨l, rfl, hl⟩ := ih fun r hr => hall r (List.mem_cons_of_mem _ hr)
      obtain ⟨m, y, hy⟩ := hall r (List.mem_cons_self ..)
      obtain ⟨c, rfl, hc⟩ := open_span hy
      exact ⟨c :: l, rfl, fun d hd => (List.mem_cons.1 hd).elim (fun e => e ▸ hc) (hl d)⟩
  obtain ⟨l, rfl, hl⟩ := this
  cases he
  exact ⟨l, hr, hl⟩
end Go.Proofs.Ytgnibcaflidjmaa
