/- Instructions as a law's argument, and where Go's library keeps a number; conditions: those of each theorem. -/
import Derived.Test.YtobkjnmdbkieeaaDoorAS9
import Derived.Test.YtobkjnmdbkieeaaDoorArgs
import Derived.HandedShaped
import Derived.LaidLaws
import Derived.Shelf.Vars
namespace Go.Proofs.YtobkjnmdbkieeaaDoor
open Go.Fx Go.ChangeShapes Go.WideShapes
set_option maxRecDepth 100000
set_option linter.unusedSimpArgs false
set_option linter.unusedVariables false
/-- a call's contract, at the world's shape, where variables are listed. -/
theorem handed_shaped {H : Type} {enc : TypeId × Value → H} {a : Assume} {C : Checked} {os : Os} {f : FuncId} {fn : Func} {s : ChangeSpec} {conds : List PathCond} {apart fresh handsOn again : Bool} {X : World → Array Value → Prop}
    (own : ownKnob C.prog.godebug = none) (started : os.Started) (noInit : C.prog.inits.idxOf? f = none) (hfn : C.prog.funcs[f]? = some fn)
    (witness : ∃ (w : World) (tape : Tape) (i : Input), w.os = os ∧ (w.forCall tape i).Shaped C.prog ∧ i.vars = [] ∧ Input.okWide C.prog (w.forCall tape i) .any w.heap.size f i ∧
      ((s.pre enc C.prog fn conds apart (w.forCall tape i).memory i.args ∧ X (w.forCall tape i).memory i.args) ∧ sizedMet enc C.prog fn (OpenSpec.ofChange s) apart (w.forCall tape i).memory i.args) ∧ a.holds C.prog (lone (Frame.enter C.prog f i.args .normal) [] (w.forCall tape i)))
    (go : ∀ (W : World) (base : Nat) (args : Array Value) (ds gs : List (DataW H)) (before : List MemPlace),
      (∀ (j : Nat) t v, fn.params[j]? = some t → args[j]? = some v → Value.okWide C.prog W .any base t v) →
      DataW.Whole enc C.prog fn.params.toList s.vars apart W args.toList ds gs before → W.ShapedOpen C.prog →
      Calls C.prog f args W fun e W' => ∃ v, e = .returned v ∧ s.post enc C.prog fn apart fresh handsOn again W args v W') :
    ReturnsInHanded a C os f .any (fun w args => (s.pre enc C.prog fn conds apart w args ∧ X w args) ∧ sizedMet enc C.prog fn (OpenSpec.ofChange s) apart w args) (s.post enc C.prog fn apart fresh handsOn again) := by
  refine returnsInHanded_of_calls own started noInit witness ?_
  intro w tape i _ hsh _ hok hpre _
  obtain ⟨_, _, _, fn', hfn', _, _, _, _, hval⟩ := hok
  have e : fn' = fn := Option.some.inj (hfn'.symm.trans hfn)
  subst e
  obtain ⟨⟨⟨ds, gs, before, hw, -⟩, -⟩, -⟩ := hpre
  refine (go _ _ i.args ds gs before hval (DataW.Whole.of_heap (w' := w.forCall tape i) (by rfl) hw) hsh).mono fun e W' ⟨v, he, hp⟩ => ?_
  subst he
  exact ChangeSpec.post_blind hp
theorem gm_of {w : World} (h : w.ShapedOpen Tryd.prog) : Gm w := by
  obtain ⟨m, hm⟩ := cell_of_shapedOpen_int (g := 0) (t := 3) (zero := #[.int .i64 0]) (k := .i64) h (of_decide_eq_true (by kernel_rfl)) (by kernel_rfl) (by kernel_rfl) (by kernel_rfl) (by kernel_rfl) Tryd.underlying3
  refine ⟨?_, m, hm⟩
  rcases Nat.eq_zero_or_pos w.heap.size with h0 | h0
  · rw [World.cell?, Array.getElem?_eq_none (by omega)] at hm
    cases hm
  · exact h0
theorem wf_i64 {n : Int} (h : (Lit.int .i64 n).wf = true) : in64 n := by
  have : -9223372036854775808 ≤ n ∧ n ≤ 9223372036854775807 := by simpa [Lit.wf, IntKind.min, IntKind.max, IntKind.signed, IntKind.bits] using h
  exact ⟨by omega, by omega⟩
theorem cellsInst : Tryd.prog.cellsOf 28 = 5 := by kernel_rfl
theorem open_inst {H : Type} {enc : TypeId × Value → H} {w : World} {base fuel : Nat} {spare : Nat → Bool} {held : Bool} {cs : List Value} {x : DataW H × List MemPlace} (h : DataW.trod enc Tryd.prog w base spare held fuel 28 cs = some x) : ∃ i : IZ, cs = izC i ∧ izOk i := by
  have cu : Tryd.prog.cellsOf 3 = 1 := by kernel_rfl
  have cu2 : Tryd.prog.cellsOf 2 = 1 := by kernel_rfl
  have hl := (fields_of Tryd.underlying28 h).1
  rw [cellsInst] at hl
  obtain ⟨a, h0, w0⟩ := field_int Tryd.underlying28 h 0 0 rfl Tryd.underlying3 cu
  obtain ⟨b, h1, w1⟩ := field_int Tryd.underlying28 h 1 1 rfl Tryd.underlying3 cu
  obtain ⟨c, h2, w2⟩ := field_int Tryd.underlying28 h 2 2 rfl Tryd.underlying3 cu
  obtain ⟨d, h3, w3⟩ := field_int Tryd.underlying28 h 3 3 rfl Tryd.underlying3 cu
  obtain ⟨e, h4, w4⟩ := field_int Tryd.underlying28 h 4 4 rfl Tryd.underlying2 cu2
  match cs, hl with
  | [c0, c1, c2, c3, c4], _ =>
    simp at h0 h1 h2 h3 h4
    subst h0 h1 h2 h3 h4
    exact ⟨⟨a, b, c, d, e⟩, rfl, wf_i64 w0, wf_i64 w1, wf_i64 w2, wf_i64 w3, wf_i64 w4⟩
theorem argInsts {H : Type} {enc : TypeId × Value → H} {w : World} {base b0 : Nat} {spare : Nat → Bool} {held : Bool} {r : Reach} {v : Value} {d : DataW H} {ps : List MemPlace} (hval : Value.okWide Tryd.prog w r b0 22 v) (h : DataW.Trod enc Tryd.prog w base spare held 22 v d ps) :
    ∃ l : List IZ, RowsAt w v 5 (l.map izC) ∧ ∀ i ∈ l, izOk i := by
  obtain ⟨fuel, x, hx⟩ := slice_trod Tryd.underlying22 hval h
  obtain ⟨v', rows, he, hr, hall⟩ := open_rows Tryd.underlying22 cellsInst (by omega) hx
  have : ∃ l : List IZ, rows = l.map izC ∧ ∀ c ∈ l, izOk c := by
    clear hr
    induction rows with
    | nil => exact ⟨[], rfl, by simp⟩
    | cons r rows ih =>
      obtain ⟨l, rfl, hl⟩ := ih fun r hr => hall r (List.mem_cons_of_mem _ hr)
      obtain ⟨m, y, hy⟩ := hall r (List.mem_cons_self ..)
      obtain ⟨c, rfl, hc⟩ := open_inst hy
      exact ⟨c :: l, rfl, fun d hd => (List.mem_cons.1 hd).elim (fun e => e ▸ hc) (hl d)⟩
  obtain ⟨l, rfl, hl⟩ := this
  cases he
  exact ⟨l, hr, hl⟩
theorem cellsInt : Tryd.prog.cellsOf 3 = 1 := by kernel_rfl
def iN (n : Int) : List Value := [.int .i64 n]
theorem argInts {H : Type} {enc : TypeId × Value → H} {w : World} {base b0 : Nat} {spare : Nat → Bool} {held : Bool} {r : Reach} {v : Value} {d : DataW H} {ps : List MemPlace} (hval : Value.okWide Tryd.prog w r b0 37 v) (h : DataW.Trod enc Tryd.prog w base spare held 37 v d ps) :
    ∃ l : List Int, RowsAt w v 1 (l.map iN) ∧ True := by
  obtain ⟨fuel, x, hx⟩ := slice_trod Tryd.underlying37 hval h
  obtain ⟨v', rows, he, hr, hall⟩ := open_rows Tryd.underlying37 cellsInt (by omega) hx
  have : ∃ l : List Int, rows = l.map iN := by
    clear hr
    induction rows with
    | nil => exact ⟨[], rfl⟩
    | cons r rows ih =>
      obtain ⟨l, rfl⟩ := ih fun r hr => hall r (List.mem_cons_of_mem _ hr)
      obtain ⟨m, y, hy⟩ := hall r (List.mem_cons_self ..)
      obtain ⟨z, e1, -⟩ := DataW.trod_int Tryd.underlying3 hy
      exact ⟨z :: l, by rw [e1]; rfl⟩
  obtain ⟨l, rfl⟩ := this
  cases he
  exact ⟨l, hr, trivial⟩
end Go.Proofs.YtobkjnmdbkieeaaDoor

