/- The steps that the laws of the cache of lines take, as rows of cells; conditions: those of each theorem. -/
import Derived.Test.YtlklhempbpphhaaTlb
import Derived.Test.YtlklhempbpphhaaArgs
namespace Go.Proofs.Ytlklhempbpphhaa
open Go.Fx Go.ChangeShapes
set_option maxRecDepth 100000
set_option linter.unusedSimpArgs false
set_option linter.unusedVariables false
/-- a step. -/
structure Ac where
  kind : Int
  place : Int
  a : Int
  n : Int
  x : Int
def acC (c : Ac) : List Value := [.int .i64 c.kind, .int .i64 c.place, .int .u64 c.a, .int .u64 c.n, .int .u64 c.x]
structure Ac.Ok (c : Ac) : Prop where
  place : -9223372036854775808 ≤ c.place ∧ c.place < 9223372036854775808
  a : 0 ≤ c.a ∧ c.a < 18446744073709551616
  n : 0 ≤ c.n ∧ c.n < 18446744073709551616
theorem wf_u64 {n : Int} (h : (Lit.int .u64 n).wf = true) : 0 ≤ n ∧ n < 18446744073709551616 := by
  have : 0 ≤ n ∧ n ≤ 18446744073709551615 := by simpa [Lit.wf, IntKind.min, IntKind.max, IntKind.signed, IntKind.bits] using h
  omega
theorem wf_i64 {n : Int} (h : (Lit.int .i64 n).wf = true) : -9223372036854775808 ≤ n ∧ n < 9223372036854775808 := by
  have : -9223372036854775808 ≤ n ∧ n ≤ 9223372036854775807 := by simpa [Lit.wf, IntKind.min, IntKind.max, IntKind.signed, IntKind.bits] using h
  omega
theorem cells61 : Try.prog.cellsOf 61 = 5 := by kernel_rfl
theorem cells22 : Try.prog.cellsOf 22 = 1 := by kernel_rfl
theorem cells3 : Try.prog.cellsOf 3 = 1 := by kernel_rfl
theorem open_ac {H : Type} {enc : TypeId × Value → H} {w : World} {base fuel : Nat} {spare : Nat → Bool} {held : Bool} {cs : List Value} {x : DataW H × List MemPlace} (h : DataW.trod enc Try.prog w base spare held fuel 61 cs = some x) : ∃ c : Ac, cs = acC c ∧ c.Ok := by
  have hl := (fields_of Try.underlying61 h).1
  rw [cells61] at hl
  obtain ⟨k, h0, w0⟩ := field_int Try.underlying61 h 0 0 rfl Try.underlying3 cells3
  obtain ⟨p, h1, w1⟩ := field_int Try.underlying61 h 1 1 rfl Try.underlying3 cells3
  obtain ⟨a, h2, w2⟩ := field_int Try.underlying61 h 2 2 rfl Try.underlying22 cells22
  obtain ⟨n, h3, w3⟩ := field_int Try.underlying61 h 3 3 rfl Try.underlying22 cells22
  obtain ⟨q, h4, w4⟩ := field_int Try.underlying61 h 4 4 rfl Try.underlying22 cells22
  match cs, hl with
  | [c0, c1, c2, c3, c4], _ =>
    simp at h0 h1 h2 h3 h4
    subst h0 h1 h2 h3 h4
    exact ⟨⟨k, p, a, n, q⟩, rfl, ⟨wf_i64 w1, wf_u64 w2, wf_u64 w3⟩⟩
theorem open_acs {H : Type} {enc : TypeId × Value → H} {w : World} {base fuel : Nat} {spare : Nat → Bool} {held : Bool} {cs : List Value} {x : DataW H × List MemPlace} (h : DataW.trod enc Try.prog w base spare held fuel 46 cs = some x) :
    ∃ (v : Value) (l : List Ac), cs = [v] ∧ RowsAt w v 5 (l.map acC) ∧ ∀ c ∈ l, c.Ok := by
  obtain ⟨v, rows, rfl, hr, hall⟩ := open_rows Try.underlying46 cells61 (by omega) h
  have : ∃ l : List Ac, rows = l.map acC ∧ ∀ c ∈ l, c.Ok := by
    clear hr
    induction rows with
    | nil => exact ⟨[], rfl, by simp⟩
    | cons r rows ih =>
      obtain ⟨l, rfl, hl⟩ := ih fun r hr => hall r (List.mem_cons_of_mem _ hr)
      obtain ⟨m, y, hy⟩ := hall r (List.mem_cons_self ..)
      obtain ⟨c, rfl, hc⟩ := open_ac hy
      exact ⟨c :: l, rfl, fun d hd => (List.mem_cons.1 hd).elim (fun e => e ▸ hc) (hl d)⟩
  obtain ⟨l, rfl, hl⟩ := this
  exact ⟨v, l, rfl, hr, hl⟩
theorem arg46 {H : Type} {enc : TypeId × Value → H} {w : World} {base b0 : Nat} {spare : Nat → Bool} {held : Bool} {r : Reach} {v : Value} {d : DataW H} {ps : List MemPlace} (hval : Value.okWide Try.prog w r b0 46 v) (h : DataW.Trod enc Try.prog w base spare held 46 v d ps) :
    ∃ l : List Ac, RowsAt w v 5 (l.map acC) ∧ ∀ c ∈ l, c.Ok := by
  obtain ⟨fuel, x, hx⟩ := slice_trod Try.underlying46 hval h
  obtain ⟨v', l, he, hr, hl⟩ := open_acs hx
  cases he
  exact ⟨l, hr, hl⟩
end Go.Proofs.Ytlklhempbpphhaa
