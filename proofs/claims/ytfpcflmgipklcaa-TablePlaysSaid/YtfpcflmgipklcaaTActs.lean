/- Acts as a law's argument; conditions: those of each theorem. -/
import Derived.Test.YtfpcflmgipklcaaTArgs
namespace Go.Proofs.Ytfpcflmgipklcaa
open Go.Fx Go.ChangeShapes Go.WideShapes
set_option maxRecDepth 100000
set_option linter.unusedSimpArgs false
set_option linter.unusedVariables false
structure ActE where
  k : Int
  n : Int
  va : Nat
  f : Nat → Bool
  x : Nat
def actC (a : ActE) : List Value := .int .i64 a.k :: .int .i64 a.n :: .int .u64 (a.va : Nat) :: entC a.f a.x
theorem actC_len (a : ActE) : (actC a).length = 16 := by simp [actC, entC]
theorem actC_all (a : ActE) : (actC a).all (fun v => v.oneCell') = true := by simp [actC, entC]; exact ⟨rfl, rfl, rfl, rfl, rfl, rfl, rfl, rfl, rfl, rfl, rfl, rfl, rfl, rfl, rfl, rfl⟩
theorem actC_0 (a : ActE) : (actC a)[0]? = some (.int .i64 a.k) := rfl
theorem actC_2 (a : ActE) : (actC a)[2]? = some (.int .u64 (a.va : Nat)) := rfl
theorem actC_sub (a : ActE) : sub (actC a) 3 13 = entC a.f a.x := by simp [actC, entC, sub]
theorem actC_sub0 (a : ActE) : sub (actC a) 0 16 = actC a := by simp [actC, entC, sub]
theorem cellsAct : Try.prog.cellsOf 42 = 16 := by kernel_rfl
theorem open_act {H : Type} {enc : TypeId × Value → H} {w : World} {base fuel : Nat} {spare : Nat → Bool} {held : Bool} {cs : List Value} {x : DataW H × List MemPlace} (h : DataW.trod enc Try.prog w base spare held fuel 42 cs = some x) : ∃ p : ActE, cs = actC p ∧ p.va < 18446744073709551616 ∧ p.x < 18446744073709551616 := by
  have hl := (fields_of Try.underlying42 h).1
  rw [cellsAct] at hl
  obtain ⟨a, h0, -⟩ := field_int Try.underlying42 h 0 0 rfl Try.underlying3 cellsI
  obtain ⟨b, h1, -⟩ := field_int Try.underlying42 h 1 1 rfl Try.underlying3 cellsI
  obtain ⟨c, h2, w2⟩ := field_int Try.underlying42 h 2 2 rfl Try.underlying23 cellsU
  have hc := u64_of w2
  obtain ⟨m, y, hy⟩ := (fields_of Try.underlying42 h).2 3 _ rfl
  have hy2 : DataW.trod enc Try.prog w base spare held m 40 ((cs.drop 3).take 13) = some y := by
    have e := cellsE
    have : (cs.drop 3).take (Try.prog.cellsOf 40) = (cs.drop 3).take 13 := by rw [e]
    rw [← this]
    exact hy
  obtain ⟨f, n, he, hn⟩ := open_entry hy2
  match cs, hl with
  | c0 :: c1 :: c2 :: rest, hl =>
    simp at h0 h1 h2
    subst h0 h1 h2
    simp only [List.drop_succ_cons, List.drop_zero] at he
    rw [List.take_of_length_le (by simp at hl; omega)] at he
    subst he
    have e : ((c.toNat : Nat) : Int) = c := by omega
    exact ⟨⟨a, b, c.toNat, f, n⟩, by simp [actC, e], by show c.toNat < _; omega, hn⟩
theorem argActs {H : Type} {enc : TypeId × Value → H} {w : World} {base b0 : Nat} {spare : Nat → Bool} {held : Bool} {r : Reach} {v : Value} {d : DataW H} {ps : List MemPlace} (hval : Value.okWide Try.prog w r b0 22 v) (h : DataW.Trod enc Try.prog w base spare held 22 v d ps) :
    ∃ l : List ActE, RowsAt w v 16 (l.map actC) ∧ ∀ c ∈ l, c.va < 18446744073709551616 ∧ c.x < 18446744073709551616 := by
  obtain ⟨fuel, x, hx⟩ := slice_trod Try.underlying22 hval h
  obtain ⟨v', rows, he, hr, hall⟩ := open_rows Try.underlying22 cellsAct (by omega) hx
  have : ∃ l : List ActE, rows = l.map actC ∧ ∀ c ∈ l, c.va < 18446744073709551616 ∧ c.x < 18446744073709551616 := by
    clear hr
    induction rows with
    | nil => exact ⟨[], rfl, by simp⟩
    | cons r rows ih =>
      obtain ⟨l, rfl, hl⟩ := ih fun r hr => hall r (List.mem_cons_of_mem _ hr)
      obtain ⟨m, y, hy⟩ := hall r (List.mem_cons_self ..)
      obtain ⟨c, rfl, hc⟩ := open_act hy
      exact ⟨c :: l, rfl, fun d hd => (List.mem_cons.1 hd).elim (fun e => e ▸ hc) (hl d)⟩
  obtain ⟨l, rfl, hl⟩ := this
  cases he
  exact ⟨l, hr, hl⟩
end Go.Proofs.Ytfpcflmgipklcaa
