/- An entry that is laid anew changes what is found of its own page alone; conditions: those of each theorem. -/
import Derived.Test.YtbigiabcgplkgaaLeaves2
namespace Go.Proofs.Ytbigiabcgplkgaa
open Go.Fx
set_option maxRecDepth 100000
set_option linter.unusedSimpArgs false
set_option linter.unusedVariables false
theorem layC_all (p : LayE) : (layC p).all (fun v => v.oneCell') = true := by simp [layC, entC]; exact ⟨rfl, rfl, rfl, rfl, rfl, rfl, rfl, rfl, rfl, rfl, rfl, rfl, rfl, rfl, rfl⟩
theorem layC_sub (p : LayE) : sub (layC p) 0 15 = layC p := by simp [layC, entC, sub]
def set2 (p : LayE) : LayE := ⟨2, p.ix, p.f, p.n⟩
theorem layC_set (p : LayE) : (layC p).set 0 (.int .i64 2) = layC (set2 p) := by simp [layC, set2]
theorem app22 {base : Nat} {v x : Value} {rows rows2 : List (List Value)} {w : World} {K : Value → World → Prop} (hown : OwnR w base 44 15 v rows) (hx : RowsAt w x 15 rows2) (h1 : ∀ r ∈ rows2, r.all (fun v => v.oneCell') = true)
    (hl : rows.length + rows2.length ≤ 1000000) (hbase : base ≤ w.heap.size) (hK : ∀ v' w', OwnR w' base 44 15 v' (rows ++ rows2) → App base v w w' → K v' w') : resV K ((Builtin.append_ #[22, 22] 22 #[v, x]).run Try.prog w) :=
  kV_appR Try.underlying22 (by kernel_rfl) (by omega) (bytes := 40) hown hx h1 (by simp only [maxLen]; omega) (by omega) hbase hK
/-- the lowest table's walk. -/
theorem walkM {M : Nat → Nat} {k : Nat} (h0 : M 0 = wd fV 1) (h1 : M 4096 = wd fV 2) (hk : k < 512) : walkA M 8 0 (k * 4096) = if bad (M (8192 + k * 8)) 0 8 = true then none else some (M (8192 + k * 8), 8192 + k * 8) := by
  have e0 : idx (k * 4096) 0 = k := by unfold idx; simp only [Nat.reduceMul, Nat.reduceAdd, Nat.reducePow]; omega
  have e1 : idx (k * 4096) 1 = 0 := by unfold idx; simp only [Nat.reduceMul, Nat.reduceAdd, Nat.reducePow]; omega
  have e2 : idx (k * 4096) 2 = 0 := by unfold idx; simp only [Nat.reduceMul, Nat.reduceAdd, Nat.reducePow]; omega
  obtain ⟨v1, v2, v3, v4⟩ := V1
  unfold walkA
  rw [if_pos (by omega), wk_go (k := 2) (x := wd fV 1) (by omega) (by rw [e2]; exact h0) v1 (by omega), v2, wk_go (k := 1) (x := wd fV 2) (by omega) (by rw [e1]; exact h1) v3 (by omega), v4]
  cases hb : bad (M (8192 + k * 8)) 0 8
  · rw [wk_end (x := M (8192 + k * 8)) (by omega) (by rw [e0]) hb, if_neg (by simp), e0]
  · rw [wk_bad (k := 0) (x := M (8192 + k * 8)) (by omega) (by rw [e0]) hb, if_pos rfl]
theorem bad_gd (x : Nat) : bad x 0 8 = !(leaf (fl x) && right (fl x) (fr x) && decide (fr x < 8)) := by
  unfold bad leaf
  by_cases h : fr x < 8
  · rw [decide_eq_true h, decide_eq_false (by omega : ¬ 8 ≤ fr x)]
    cases fl x 0 <;> cases right (fl x) (fr x) <;> simp
  · rw [decide_eq_false h, decide_eq_true (by omega : 8 ≤ fr x)]
    simp
theorem laid_base (R : List LayE) (hR : ∀ p ∈ R, 8192 ≤ atOf p) : laidW (R ++ [E1, E2]) 0 = wd fV 1 ∧ laidW (R ++ [E1, E2]) 4096 = wd fV 2 := by
  have e : laidW (R ++ [E1, E2]) = setW (setW (laidW R) (atOf E1) (wd fV 1)) (atOf E2) (wd fV 2) := by
    unfold laidW
    rw [List.foldl_append]
    rfl
  have a1 : atOf E1 = 0 := by decide
  have a2 : atOf E2 = 4096 := by decide
  rw [e, a1, a2]
  exact ⟨rfl, rfl⟩
theorem neqF_self (f : Nat → Bool) (n a : Nat) (x y : Operand) (w : World) : (binV .neq 34 x y (.agg (fdC f n a).toArray) (.agg (fdC f n a).toArray)).run Try.prog w = .ok (.bool false) w := by
  have := RM_neq_34 (f 0) (f 0) (f 1) (f 1) (f 2) (f 2) (f 3) (f 3) (f 4) (f 4) (f 5) (f 5) (f 6) (f 6) (f 7) (f 7) (f 8) (f 8) (f 9) (f 9) (f 10) (f 10) (f 11) (f 11) n n a a x y w
  simp only [beq_self_eq_true, Bool.and_self, Bool.not_true] at this
  exact this
end Go.Proofs.Ytbigiabcgplkgaa
