/- Entries, lays and small arrays as a law's arguments; conditions: those of each theorem. -/
import Derived.Test.YtbigiabcgplkgaaLaidW
import Derived.Test.YtbigiabcgplkgaaArgs
namespace Go.Proofs.Ytbigiabcgplkgaa
open Go.Fx Go.ChangeShapes Go.WideShapes
set_option maxRecDepth 100000
set_option linter.unusedSimpArgs false
set_option linter.unusedVariables false
theorem u64_of {n : Int} (h : (Lit.int .u64 n).wf = true) : 0 ≤ n ∧ n < 18446744073709551616 := by
  have : 0 ≤ n ∧ n ≤ 18446744073709551615 := by simpa [Lit.wf, IntKind.min, IntKind.max, IntKind.signed, IntKind.bits] using h
  omega
theorem cellsE : Try.prog.cellsOf 32 = 13 := by kernel_rfl
theorem cellsL : Try.prog.cellsOf 44 = 15 := by kernel_rfl
theorem cellsU : Try.prog.cellsOf 23 = 1 := by kernel_rfl
theorem cellsI : Try.prog.cellsOf 3 = 1 := by kernel_rfl
theorem cellsB : Try.prog.cellsOf 4 = 1 := by kernel_rfl
theorem open_entry {H : Type} {enc : TypeId × Value → H} {w : World} {base fuel : Nat} {spare : Nat → Bool} {held : Bool} {cs : List Value} {x : DataW H × List MemPlace} (h : DataW.trod enc Try.prog w base spare held fuel 32 cs = some x) : ∃ (f : Nat → Bool) (n : Nat), cs = entC f n ∧ n < 18446744073709551616 := by
  have hl := (fields_of Try.underlying32 h).1
  rw [cellsE] at hl
  obtain ⟨b0, h0⟩ := field_bool Try.underlying32 h 0 0 rfl Try.underlying4 cellsB
  obtain ⟨b1, h1⟩ := field_bool Try.underlying32 h 1 1 rfl Try.underlying4 cellsB
  obtain ⟨b2, h2⟩ := field_bool Try.underlying32 h 2 2 rfl Try.underlying4 cellsB
  obtain ⟨b3, h3⟩ := field_bool Try.underlying32 h 3 3 rfl Try.underlying4 cellsB
  obtain ⟨b4, h4⟩ := field_bool Try.underlying32 h 4 4 rfl Try.underlying4 cellsB
  obtain ⟨b5, h5⟩ := field_bool Try.underlying32 h 5 5 rfl Try.underlying4 cellsB
  obtain ⟨b6, h6⟩ := field_bool Try.underlying32 h 6 6 rfl Try.underlying4 cellsB
  obtain ⟨b7, h7⟩ := field_bool Try.underlying32 h 7 7 rfl Try.underlying4 cellsB
  obtain ⟨b8, h8⟩ := field_bool Try.underlying32 h 8 8 rfl Try.underlying4 cellsB
  obtain ⟨b9, h9⟩ := field_bool Try.underlying32 h 9 9 rfl Try.underlying4 cellsB
  obtain ⟨b10, h10⟩ := field_bool Try.underlying32 h 10 10 rfl Try.underlying4 cellsB
  obtain ⟨b11, h11⟩ := field_bool Try.underlying32 h 11 11 rfl Try.underlying4 cellsB
  obtain ⟨n, h12, w12⟩ := field_int Try.underlying32 h 12 12 rfl Try.underlying23 cellsU
  have hn := u64_of w12
  match cs, hl with
  | [c0, c1, c2, c3, c4, c5, c6, c7, c8, c9, c10, c11, c12], _ =>
    simp at h0 h1 h2 h3 h4 h5 h6 h7 h8 h9 h10 h11 h12
    subst h0 h1 h2 h3 h4 h5 h6 h7 h8 h9 h10 h11 h12
    refine ⟨fun j => ([b0, b1, b2, b3, b4, b5, b6, b7, b8, b9, b10, b11][j]?).getD false, n.toNat, ?_, by omega⟩
    have e : ((n.toNat : Nat) : Int) = n := by omega
    simp [entC, e]
theorem open_lay {H : Type} {enc : TypeId × Value → H} {w : World} {base fuel : Nat} {spare : Nat → Bool} {held : Bool} {cs : List Value} {x : DataW H × List MemPlace} (h : DataW.trod enc Try.prog w base spare held fuel 44 cs = some x) : ∃ p : LayE, cs = layC p ∧ p.n < 18446744073709551616 := by
  have hl := (fields_of Try.underlying44 h).1
  rw [cellsL] at hl
  obtain ⟨a, h0, -⟩ := field_int Try.underlying44 h 0 0 rfl Try.underlying3 cellsI
  obtain ⟨b, h1, -⟩ := field_int Try.underlying44 h 1 1 rfl Try.underlying3 cellsI
  obtain ⟨m, y, hy⟩ := (fields_of Try.underlying44 h).2 2 _ rfl
  have hy2 : DataW.trod enc Try.prog w base spare held m 32 ((cs.drop 2).take 13) = some y := by
    have e := cellsE
    have : (cs.drop 2).take (Try.prog.cellsOf 32) = (cs.drop 2).take 13 := by rw [e]
    rw [← this]
    exact hy
  obtain ⟨f, n, he, hn⟩ := open_entry hy2
  match cs, hl with
  | c0 :: c1 :: rest, hl =>
    simp at h0 h1
    subst h0 h1
    simp only [List.drop_succ_cons, List.drop_zero] at he
    rw [List.take_of_length_le (by simp at hl; omega)] at he
    subst he
    exact ⟨⟨a, b, f, n⟩, rfl, hn⟩
theorem argLays {H : Type} {enc : TypeId × Value → H} {w : World} {base b0 : Nat} {spare : Nat → Bool} {held : Bool} {r : Reach} {v : Value} {d : DataW H} {ps : List MemPlace} (hval : Value.okWide Try.prog w r b0 22 v) (h : DataW.Trod enc Try.prog w base spare held 22 v d ps) :
    ∃ l : List LayE, RowsAt w v 15 (l.map layC) ∧ ∀ c ∈ l, c.n < 18446744073709551616 := by
  obtain ⟨fuel, x, hx⟩ := slice_trod Try.underlying22 hval h
  obtain ⟨v', rows, he, hr, hall⟩ := open_rows Try.underlying22 cellsL (by omega) hx
  have : ∃ l : List LayE, rows = l.map layC ∧ ∀ c ∈ l, c.n < 18446744073709551616 := by
    clear hr
    induction rows with
    | nil => exact ⟨[], rfl, by simp⟩
    | cons r rows ih =>
      obtain ⟨l, rfl, hl⟩ := ih fun r hr => hall r (List.mem_cons_of_mem _ hr)
      obtain ⟨m, y, hy⟩ := hall r (List.mem_cons_self ..)
      obtain ⟨c, rfl, hc⟩ := open_lay hy
      exact ⟨c :: l, rfl, fun d hd => (List.mem_cons.1 hd).elim (fun e => e ▸ hc) (hl d)⟩
  obtain ⟨l, rfl, hl⟩ := this
  cases he
  exact ⟨l, hr, hl⟩
/-- an entry as an argument. -/
structure EntE where
  f : Nat → Bool
  n : Nat
def entE (e : EntE) : List Value := entC e.f e.n
theorem argEntry {H : Type} {enc : TypeId × Value → H} {w : World} {base b0 : Nat} {spare : Nat → Bool} {held : Bool} {r : Reach} {v : Value} {d : DataW H} {ps : List MemPlace} (hval : Value.okWide Try.prog w r b0 32 v) (h : DataW.Trod enc Try.prog w base spare held 32 v d ps) :
    ∃ e : EntE, v = .agg (entE e).toArray ∧ e.n < 18446744073709551616 := by
  simp only [Value.okWide, Try.underlying32] at hval
  obtain ⟨cs, rfl, -, -⟩ := hval
  obtain ⟨fuel, x, hx⟩ := agg_trod h
  have e : (Value.agg cs).cells.toList = cs.toList := by simp [Value.cells]
  rw [e] at hx
  obtain ⟨f, n, h1, hn⟩ := open_entry hx
  obtain ⟨l⟩ := cs
  simp only at h1
  subst h1
  exact ⟨⟨f, n⟩, rfl, hn⟩
def b2C (p : Bool × Bool) : List Value := [.bool p.1, .bool p.2]
def i2C (p : Int × Int) : List Value := [.int .i64 p.1, .int .i64 p.2]
def i3C (p : Int × Int × Int) : List Value := [.int .i64 p.1, .int .i64 p.2.1, .int .i64 p.2.2]
theorem elem_int {H : Type} {enc : TypeId × Value → H} {w : World} {base fuel n : Nat} {t : TypeId} {spare : Nat → Bool} {held : Bool} {cs : List Value} {x : DataW H × List MemPlace} (ht : Try.prog.underlying t = some (.array n 3)) (h : DataW.trod enc Try.prog w base spare held fuel t cs = some x) (i : Nat) (hi : i < n) : ∃ a, cs[i]? = some (.int .i64 a) := by
  obtain ⟨xs, m, -, -, -, hlen, hall⟩ := DataW.trod_array ht h
  have h1 := hall i hi
  rw [cellsI, List.getElem?_eq_getElem (by omega)] at h1
  obtain ⟨a, h2, -, -⟩ := DataW.trod_int Try.underlying3 h1
  refine ⟨a, ?_⟩
  have : ((cs.drop (i * 1)).take 1)[0]? = some (.int .i64 a) := by rw [h2]; rfl
  rw [List.getElem?_take_of_lt (by omega), List.getElem?_drop, Nat.add_zero, Nat.mul_one] at this
  exact this
theorem elem_bool {H : Type} {enc : TypeId × Value → H} {w : World} {base fuel n : Nat} {t : TypeId} {spare : Nat → Bool} {held : Bool} {cs : List Value} {x : DataW H × List MemPlace} (ht : Try.prog.underlying t = some (.array n 4)) (h : DataW.trod enc Try.prog w base spare held fuel t cs = some x) (i : Nat) (hi : i < n) : ∃ a, cs[i]? = some (.bool a) := by
  obtain ⟨xs, m, -, -, -, hlen, hall⟩ := DataW.trod_array ht h
  have h1 := hall i hi
  rw [cellsB, List.getElem?_eq_getElem (by omega)] at h1
  obtain ⟨a, h2, -⟩ := DataW.trod_bool Try.underlying4 h1
  refine ⟨a, ?_⟩
  have : ((cs.drop (i * 1)).take 1)[0]? = some (.bool a) := by rw [h2]; rfl
  rw [List.getElem?_take_of_lt (by omega), List.getElem?_drop, Nat.add_zero, Nat.mul_one] at this
  exact this
theorem arr_open {H : Type} {enc : TypeId × Value → H} {w : World} {base b0 n : Nat} {t e : TypeId} {spare : Nat → Bool} {held : Bool} {r : Reach} {v : Value} {d : DataW H} {ps : List MemPlace} (ht : Try.prog.underlying t = some (.array n e)) (hval : Value.okWide Try.prog w r b0 t v) (h : DataW.Trod enc Try.prog w base spare held t v d ps) :
    ∃ (l : List Value) (fuel : Nat) (x : DataW H × List MemPlace), v = .agg l.toArray ∧ l.length = Try.prog.cellsOf t ∧ DataW.trod enc Try.prog w base spare held fuel t l = some x := by
  simp only [Value.okWide, ht] at hval
  obtain ⟨cs, rfl, -, -⟩ := hval
  obtain ⟨fuel, x, hx⟩ := agg_trod h
  have e : (Value.agg cs).cells.toList = cs.toList := by simp [Value.cells]
  rw [e] at hx
  obtain ⟨xs, m, -, -, hl, -, -⟩ := DataW.trod_array ht hx
  exact ⟨cs.toList, fuel, x, by simp, hl, hx⟩
theorem argB2 {H : Type} {enc : TypeId × Value → H} {w : World} {base b0 : Nat} {spare : Nat → Bool} {held : Bool} {r : Reach} {v : Value} {d : DataW H} {ps : List MemPlace} (hval : Value.okWide Try.prog w r b0 55 v) (h : DataW.Trod enc Try.prog w base spare held 55 v d ps) :
    ∃ p : Bool × Bool, v = .agg (b2C p).toArray ∧ True := by
  obtain ⟨l, fuel, x, rfl, hl, hx⟩ := arr_open Try.underlying55 hval h
  have e : Try.prog.cellsOf 55 = 2 := by kernel_rfl
  rw [e] at hl
  obtain ⟨a, h0⟩ := elem_bool Try.underlying55 hx 0 (by omega)
  obtain ⟨b, h1⟩ := elem_bool Try.underlying55 hx 1 (by omega)
  match l, hl with
  | [c0, c1], _ =>
    simp at h0 h1
    subst h0 h1
    exact ⟨(a, b), rfl, trivial⟩
theorem argI2 {H : Type} {enc : TypeId × Value → H} {w : World} {base b0 : Nat} {spare : Nat → Bool} {held : Bool} {r : Reach} {v : Value} {d : DataW H} {ps : List MemPlace} (hval : Value.okWide Try.prog w r b0 42 v) (h : DataW.Trod enc Try.prog w base spare held 42 v d ps) :
    ∃ p : Int × Int, v = .agg (i2C p).toArray ∧ True := by
  obtain ⟨l, fuel, x, rfl, hl, hx⟩ := arr_open Try.underlying42 hval h
  have e : Try.prog.cellsOf 42 = 2 := by kernel_rfl
  rw [e] at hl
  obtain ⟨a, h0⟩ := elem_int Try.underlying42 hx 0 (by omega)
  obtain ⟨b, h1⟩ := elem_int Try.underlying42 hx 1 (by omega)
  match l, hl with
  | [c0, c1], _ =>
    simp at h0 h1
    subst h0 h1
    exact ⟨(a, b), rfl, trivial⟩
theorem argI3 {H : Type} {enc : TypeId × Value → H} {w : World} {base b0 : Nat} {spare : Nat → Bool} {held : Bool} {r : Reach} {v : Value} {d : DataW H} {ps : List MemPlace} (hval : Value.okWide Try.prog w r b0 51 v) (h : DataW.Trod enc Try.prog w base spare held 51 v d ps) :
    ∃ p : Int × Int × Int, v = .agg (i3C p).toArray ∧ True := by
  obtain ⟨l, fuel, x, rfl, hl, hx⟩ := arr_open Try.underlying51 hval h
  have e : Try.prog.cellsOf 51 = 3 := by kernel_rfl
  rw [e] at hl
  obtain ⟨a, h0⟩ := elem_int Try.underlying51 hx 0 (by omega)
  obtain ⟨b, h1⟩ := elem_int Try.underlying51 hx 1 (by omega)
  obtain ⟨c, h2⟩ := elem_int Try.underlying51 hx 2 (by omega)
  match l, hl with
  | [c0, c1, c2], _ =>
    simp at h0 h1 h2
    subst h0 h1 h2
    exact ⟨(a, b, c), rfl, trivial⟩
end Go.Proofs.Ytbigiabcgplkgaa
