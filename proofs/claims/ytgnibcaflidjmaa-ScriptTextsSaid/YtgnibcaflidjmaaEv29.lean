/- Events as arguments, and the lines of two programs' events: the law of traces; conditions: those of each theorem. -/
import Derived.Test.YtgnibcaflidjmaaOne29
namespace Go.Proofs.Ytgnibcaflidjmaa
open Go.Fx Go.ChangeShapes Go.WideShapes
set_option maxRecDepth 100000
set_option linter.unusedSimpArgs false
set_option linter.unusedVariables false
theorem cellsEv : Try.prog.cellsOf 35 = 8 := by kernel_rfl
theorem cellsCap29 : Try.prog.cellsOf 33 = 3 := by kernel_rfl
theorem cellsI29 : Try.prog.cellsOf 3 = 1 := by kernel_rfl
theorem cellsU29 : Try.prog.cellsOf 28 = 1 := by kernel_rfl
theorem cellsB29 : Try.prog.cellsOf 4 = 1 := by kernel_rfl
theorem i64_of29 {n : Int} (h : (Lit.int .i64 n).wf = true) : I64 n := by
  have : -9223372036854775808 ≤ n ∧ n ≤ 9223372036854775807 := by simpa [Lit.wf, IntKind.min, IntKind.max, IntKind.signed, IntKind.bits] using h
  unfold I64
  omega
theorem u64_of29 {n : Int} (h : (Lit.int .u64 n).wf = true) : ∃ m : Nat, n = m ∧ m < 18446744073709551616 := by
  have : 0 ≤ n ∧ n ≤ 18446744073709551615 := by simpa [Lit.wf, IntKind.min, IntKind.max, IntKind.signed, IntKind.bits] using h
  exact ⟨n.toNat, by omega, by omega⟩
theorem open_ev {H : Type} {enc : TypeId × Value → H} {w : World} {base fuel : Nat} {spare : Nat → Bool} {held : Bool} {cs : List Value} {x : DataW H × List MemPlace} (h : DataW.trod enc Try.prog w base spare held fuel 35 cs = some x) : ∃ c : Ev, cs = evC c ∧ EvOk c := by
  have hl := (fields_of Try.underlying35 h).1
  rw [cellsEv] at hl
  obtain ⟨p, h0, w0⟩ := field_int Try.underlying35 h 0 0 rfl Try.underlying3 cellsI29
  obtain ⟨k, h1, w1⟩ := field_int Try.underlying35 h 1 1 rfl Try.underlying3 cellsI29
  obtain ⟨pc, h2, w2⟩ := field_int Try.underlying35 h 2 2 rfl Try.underlying28 cellsU29
  obtain ⟨op, h3, w3⟩ := field_int Try.underlying35 h 3 3 rfl Try.underlying3 cellsI29
  obtain ⟨cd, h4, w4⟩ := field_int Try.underlying35 h 4 4 rfl Try.underlying3 cellsI29
  obtain ⟨m, y, hy⟩ := (fields_of Try.underlying35 h).2 5 _ rfl
  have hy2 : DataW.trod enc Try.prog w base spare held m 33 ((cs.drop 5).take 3) = some y := by
    have e := cellsCap29
    have : (cs.drop 5).take (Try.prog.cellsOf 33) = (cs.drop 5).take 3 := by rw [e]
    rw [← this]
    exact hy
  obtain ⟨t, g0⟩ := field_bool Try.underlying33 hy2 0 0 rfl Try.underlying4 cellsB29
  obtain ⟨mt, g1, v1⟩ := field_int Try.underlying33 hy2 1 1 rfl Try.underlying28 cellsU29
  obtain ⟨ad, g2, v2⟩ := field_int Try.underlying33 hy2 2 2 rfl Try.underlying28 cellsU29
  obtain ⟨pc, rfl, b2⟩ := u64_of29 w2
  obtain ⟨mt, rfl, b3⟩ := u64_of29 v1
  obtain ⟨ad, rfl, b4⟩ := u64_of29 v2
  have r0 := i64_of29 w0
  have r1 := i64_of29 w1
  have r3 := i64_of29 w3
  have r4 := i64_of29 w4
  match cs, hl with
  | [c0, c1, c2, c3, c4, c5, c6, c7], _ =>
    simp at h0 h1 h2 h3 h4 g0 g1 g2
    subst h0 h1 h2 h3 h4 g0 g1 g2
    exact ⟨⟨p, k, pc, op, cd, t, mt, ad⟩, rfl, ⟨r0, r1, b2, r3, r4, b3, b4⟩⟩
theorem argEvs {H : Type} {enc : TypeId × Value → H} {w : World} {base b0 : Nat} {spare : Nat → Bool} {held : Bool} {r : Reach} {v : Value} {d : DataW H} {ps : List MemPlace} (hval : Value.okWide Try.prog w r b0 36 v) (h : DataW.Trod enc Try.prog w base spare held 36 v d ps) :
    ∃ l : List Ev, RowsAt w v 8 (l.map evC) ∧ ∀ c ∈ l, EvOk c := by
  obtain ⟨fuel, x, hx⟩ := slice_trod Try.underlying36 hval h
  obtain ⟨v', rows, he, hr, hall⟩ := open_rows Try.underlying36 cellsEv (by omega) hx
  have : ∃ l : List Ev, rows = l.map evC ∧ ∀ c ∈ l, EvOk c := by
    clear hr
    induction rows with
    | nil => exact ⟨[], rfl, by simp⟩
    | cons r rows ih =>
      obtain ⟨l, rfl, hl⟩ := ih fun r hr => hall r (List.mem_cons_of_mem _ hr)
      obtain ⟨m, y, hy⟩ := hall r (List.mem_cons_self ..)
      obtain ⟨c, rfl, hc⟩ := open_ev hy
      exact ⟨c :: l, rfl, fun d hd => (List.mem_cons.1 hd).elim (fun e => e ▸ hc) (hl d)⟩
  obtain ⟨l, rfl, hl⟩ := this
  cases he
  exact ⟨l, hr, hl⟩
theorem argEv {H : Type} {enc : TypeId × Value → H} {w : World} {base b0 : Nat} {spare : Nat → Bool} {held : Bool} {r : Reach} {v : Value} {d : DataW H} {ps : List MemPlace} (hval : Value.okWide Try.prog w r b0 35 v) (h : DataW.Trod enc Try.prog w base spare held 35 v d ps) :
    ∃ e : Ev, v = .agg (evC e).toArray ∧ EvOk e := by
  simp only [Value.okWide, Try.underlying35] at hval
  obtain ⟨cs, rfl, -, -⟩ := hval
  obtain ⟨fuel, x, hx⟩ := agg_trod h
  have e : (Value.agg cs).cells.toList = cs.toList := by simp [Value.cells]
  rw [e] at hx
  obtain ⟨c, h1, hn⟩ := open_ev hx
  obtain ⟨l⟩ := cs
  simp only at h1
  subst h1
  exact ⟨c, rfl, hn⟩
theorem appEv {base : Nat} {v x : Value} {rows rows2 : List (List Value)} {w : World} {K : Value → World → Prop} (hown : OwnR w base 35 8 v rows) (hx : RowsAt w x 8 rows2) (h1 : ∀ r ∈ rows2, r.all (fun v => v.oneCell') = true)
    (hl : rows.length + rows2.length ≤ 1000000) (hbase : base ≤ w.heap.size) (hK : ∀ v' w', OwnR w' base 35 8 v' (rows ++ rows2) → App base v w w' → K v' w') : resV K ((Builtin.append_ #[36, 36] 36 #[v, x]).run Try.prog w) :=
  kV_appR Try.underlying36 (by kernel_rfl) (by omega) (bytes := 64) hown hx h1 (by simp only [maxLen]; omega) (by omega) hbase hK
end Go.Proofs.Ytgnibcaflidjmaa
