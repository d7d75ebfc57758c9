/- What a walk finds in tables; the law's own example; conditions: those of each theorem. -/
import Derived.Test.YtfpcflmgipklcaaTWalk
import Derived.Test.YtfpcflmgipklcaaTab8
namespace Go.Proofs.Ytfpcflmgipklcaa
open Go.Fx
set_option maxRecDepth 100000
set_option linter.unusedSimpArgs false
set_option linter.unusedVariables false
/-- what a walk's end tells. -/
def endW (m : Nat → Int) (n va : Nat) (y : Nat × Nat × Bool) : Option (Nat × Nat) := if y.2.2 then (if bad (ew m y.1 (idx va 0)) 0 n then none else some (ew m y.1 (idx va 0), y.1 * 4096 + idx va 0 * 8)) else none
theorem bare_bad {k l n : Nat} (hk : k < n) (hk2 : k < 17592186044416) : bad (wd (bare false) k) (l + 1) n = false := by
  have hf : ∀ j, j < 12 → fl (wd (bare false) k) j = bare false j := fun j hj => fl_wd _ _ j hj
  have hr : fr (wd (bare false) k) = k := by rw [fr_wd, Nat.mod_eq_of_lt hk2]
  unfold bad right leaf
  rw [hr, hf 0 (by omega), hf 1 (by omega), hf 2 (by omega), hf 3 (by omega), hf 4 (by omega), hf 6 (by omega), hf 7 (by omega), hf 8 (by omega), hf 9 (by omega), hf 10 (by omega), hf 11 (by omega)]
  simp [bare]
  omega
theorem walk_low {m : Nat → Int} {n : Nat} {fs : List Nat} {lv : Nat → Nat} {par : Nat → Nat × Nat} (hT : Tree m n fs lv par) (hn : n ≤ 64) {va : Nat} : ∀ {l F : Nat}, F ∈ fs → lv F = l → wk (fun a => leN m a 8) n va (l + 1) F = endW m n va (low m va l F)
  | 0, F, hF, hL => by
    have h1 := hT.lt F hF
    unfold wk endW low
    rw [if_neg (by omega), if_pos rfl, if_pos rfl]
    rfl
  | l + 1, F, hF, hL => by
    have h1 := hT.lt F hF
    rw [low_s m va l F]
    unfold wk
    rw [if_neg (by omega), if_neg (by omega : ¬ l + 1 = 0)]
    show (if bad (ew m F (idx va (l + 1))) (l + 1) n = true then none else wk (fun a => leN m a 8) n va (l + 1) (fr (ew m F (idx va (l + 1))))) = _
    by_cases hv : fl (ew m F (idx va (l + 1))) 0 = true
    · obtain ⟨h2, h3, h4, h5⟩ := hT.ent F hF _ (idx_lt _ _) l hL hv
      have h6 := hT.lt _ h2
      have hb : bad (ew m F (idx va (l + 1))) (l + 1) n = false := by
        rw [h5]
        exact bare_bad h6 (by omega)
      rw [if_pos hv, if_neg (by rw [hb]; simp)]
      exact walk_low hT hn h2 h3
    · rw [if_neg hv, if_pos]
      · rfl
      · unfold bad
        rw [Bool.eq_false_iff.2 hv]
        rfl
theorem walk_tab {m : Nat → Int} {n root va : Nat} {fs : List Nat} {lv : Nat → Nat} {par : Nat → Nat × Nat} (hT : Tree m n fs lv par) (hn : n ≤ 64) (hr : fs.headD 0 = root) (hva : va < 274877906944) : (∃ a, walkA (fun a => leN m a 8) n root va = some (lookW m root va, a) ∧ bad (lookW m root va) 0 n = false) ∨ (walkA (fun a => leN m a 8) n root va = none ∧ bad (lookW m root va) 0 n = true) := by
  obtain ⟨f0, l0, hfs, hf0⟩ := hT.top
  rw [hfs, List.headD_cons] at hr
  subst hr
  unfold walkA lookW
  rw [if_pos hva, walk_low hT hn (by rw [hfs]; simp) hf0]
  obtain ⟨y, hy⟩ : ∃ y, low m va 2 f0 = y := ⟨_, rfl⟩
  rw [hy]
  unfold endW
  by_cases h1 : y.2.2 = true
  · rw [if_pos h1, if_pos h1]
    by_cases h2 : bad (ew m y.1 (idx va 0)) 0 n = true
    · rw [if_pos h2]
      exact .inr ⟨rfl, h2⟩
    · rw [if_neg h2]
      exact .inl ⟨_, rfl, Bool.eq_false_iff.2 h2⟩
  · rw [if_neg h1, if_neg h1]
    refine .inr ⟨rfl, ?_⟩
    unfold bad
    rw [fl_zero]
    rfl
end Go.Proofs.Ytfpcflmgipklcaa
