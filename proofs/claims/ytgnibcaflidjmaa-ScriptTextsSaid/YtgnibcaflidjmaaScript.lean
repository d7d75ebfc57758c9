/- An event as a text, the program's; conditions: those of each theorem. -/
import Derived.Test.YtgnibcaflidjmaaEvs
namespace Go.Proofs.Ytgnibcaflidjmaa
open Go.Fx
set_option maxRecDepth 100000
set_option linter.unusedSimpArgs false
set_option linter.unusedVariables false
/-- a slice of texts, made by appending. -/
def SL (w : World) (base : Nat) (v : Value) (xs : List (List Int)) : Prop := OwnR w base 9 1 v (xs.map fun x => [.string (strOfNums x)])
theorem flat_one {α β : Type} (f : α → β) : ∀ xs : List α, (xs.map fun x => [f x]).flatten = xs.map f
  | [] => rfl
  | x :: xs => by rw [List.map_cons, List.flatten_cons, flat_one f xs]; rfl
theorem SL.lit {w : World} {base : Nat} (xs : List (List Int)) (hb : base ≤ w.heap.size) (hn : xs.length ≤ 1000) :
    SL (w.alloc (.cells (xs.map fun x => Value.string (strOfNums x)).toArray 9)) base (.slice (some ⟨w.heap.size, 0, none⟩) xs.length xs.length) xs := by
  have hf := flat_one (fun x : List Int => Value.string (strOfNums x)) xs
  refine ⟨⟨by rw [hf]; simp, .inr ⟨w.heap.size, xs.length, _, by simp, hb, alloc_at rfl, by simp, by simp [maxLen]; omega, by simp, ?_⟩⟩, ?_, ?_⟩
  · rw [hf]
    exact List.take_of_length_le (by simp)
  · intro r hr
    obtain ⟨x, _, rfl⟩ := List.mem_map.1 hr
    rfl
  · intro r hr
    obtain ⟨x, _, rfl⟩ := List.mem_map.1 hr
    rfl
theorem SL.ext {w w' : World} {base : Nat} {v : Value} {xs : List (List Int)} (h : SL w base v xs) (hx : Ext [] w w') : SL w' base v xs := OwnR.ext h hx (by simp)
theorem app_spec {w : World} {base : Nat} {v x : Value} {xs ys : List (List Int)} (h : SL w base v xs) (hy : SL w base x ys) (hn : xs.length + ys.length ≤ 1000) (hb : base ≤ w.heap.size) {K : Value → World → Prop}
    (hK : ∀ v' w', SL w' base v' (xs ++ ys) → App base v w w' → K v' w') : resV K ((Builtin.append_ #[69, 69] 69 #[v, x]).run Try.prog w) :=
  kV_appR Try.underlying69 (by kernel_rfl) (by omega) (bytes := 16) h hy.rows hy.one (by simp only [List.length_map, maxLen]; omega) (by simp only [List.length_map]; omega) hb (fun v' w' h1 h2 => hK v' w' (by rw [SL, List.map_append]; exact h1) h2)
theorem Join2_spec {w : World} {base : Nat} {v : Value} {xs : List (List Int)} {sep : List Int} (h : SL w base v xs) (h0 : 0 < xs.length) (hn : xs.length ≤ 1000) (hj : (joinN sep xs).length ≤ 1000000) {K : Value → World → Prop}
    (hK : ∀ w', Ext [] w w' → K (.string (strOfNums (joinN sep xs))) w') : callsK Try.prog 26 #[v, .string (strOfNums sep)] w K := by
  have e1 : (xs.map strOfNums).map (·.data.toList) = xs.map nums := by simp [strOfNums, nums]
  have e2 : (strOfNums sep).data.toList = nums sep := rfl
  have hj2 := join_nums sep xs
  obtain ⟨hl, hh⟩ := h.own
  rcases hh with ⟨_, hz⟩ | ⟨b, c, cur, rfl, hb, hc, hnc, hcm, hcl, htk⟩
  · rw [List.length_map] at hz; omega
  rw [List.length_map] at hnc htk ⊢
  rw [flat_one] at htk
  have := Try.strings_Join b 0 c (xs.map strOfNums) (strOfNums sep) w (fun j x hx => ?_) (lt_of_at hc) (by simp; omega) (by simpa using hnc) (by rw [e1, e2, hj2]; simp [nums]; omega)
  · rw [List.length_map] at this
    refine Calls.mono this ?_
    rintro e w' ⟨rfl, hbl⟩
    refine ⟨_, rfl, ?_⟩
    rw [e1, e2, hj2]
    exact hK w' (ext_below Ext.refl hbl)
  · rw [cell_of_block hc]
    simp at hx ⊢
    obtain ⟨a, ha, rfl⟩ := hx
    have hxa : ∀ h : j < xs.length, xs[j] = a := fun h => by
      rw [List.getElem?_eq_getElem h] at ha
      exact Option.some.inj ha
    have h2 := congrArg (fun l : List Value => l[j]?) htk
    have hj3 : j < xs.length := by
      obtain ⟨h, _⟩ := List.getElem?_eq_some_iff.1 ha
      exact h
    simp [List.getElem?_take, hj3, ha] at h2
    rw [hxa hj3] at h2
    exact h2
end Go.Proofs.Ytgnibcaflidjmaa
