/- The entry behind an access; conditions: those of each theorem. -/
import Derived.Test.YtbigiabcgplkgaaMarks
namespace Go.Proofs.Ytbigiabcgplkgaa
open Go.Fx
set_option maxRecDepth 100000
set_option linter.unusedSimpArgs false
set_option linter.unusedVariables false
theorem markA_eq (f : Nat → Bool) (k : Int) (t b1 b2 : Bool) (n : Nat) (h1 : b1 = decide (k = 2 ∨ k = 4)) (h2 : b2 = (decide (k = 4) && t)) :
    entC (upd1 (upd1 (upd1 f 6 (f 6 || true)) 7 ((upd1 f 6 (f 6 || true)) 7 || b1)) 10 ((upd1 (upd1 f 6 (f 6 || true)) 7 ((upd1 f 6 (f 6 || true)) 7 || b1)) 10 || b2)) n = entC (markA f k t) n := by
  refine entC_congr fun j hj => ?_
  subst h1 h2
  unfold upd1 markA
  by_cases h6 : j = 6
  · subst h6; simp
  by_cases h7 : j = 7
  · subst h7; simp
  by_cases h10 : j = 10
  · subst h10; simp
  simp [h6, h7, h10]
theorem Marked_spec {w : World} {f : Nat → Bool} {n : Nat} {k : Int} {t : Bool} {K : Value → World → Prop} (hK : ∀ w', Ext [] w w' → K (.agg (entC (markA f k t) n).toArray) w') : callsK Try.prog 23 #[.agg (entC f n).toArray, .int .i64 k, .bool t] w K := by
  apply F23_ok
  unfold F23
  simp (disch := first | assumption | omega | (simp only [szR, entC_len, entC_all, fdC_len, fdC_all] <;> omega) | rfl | decide) only [gen0, gen1, gen2, rulesM, litR, bolR, Nat.reduceAdd, Nat.reduceLeDiff, numR, memR, valR, heapR, updR, intR, decR, extR, slR, segR, thenR, pnR, Int.reduceToNat, Int.reduceAdd, Int.reduceSub, Int.reduceLT, Int.reduceLE, Nat.reduceSub, Nat.reduceMul, Nat.reduceEqDiff, entC_zero]
  refine mark_spec (f := f) (n := n) (is := true) (by omega) (by first | with_reducible rfl | assumption | (simp (disch := first | assumption | omega | (simp only [szR, entC_len, entC_all, fdC_len, fdC_all] <;> omega) | rfl | decide) only [gen0, gen1, gen2, rulesM, litR, bolR, Nat.reduceAdd, Nat.reduceLeDiff, numR, memR, valR, heapR, updR, intR, decR, extR, slR, segR, thenR, pnR, Int.reduceToNat, Int.reduceAdd, Int.reduceSub, Int.reduceLT, Int.reduceLE, Nat.reduceSub, Nat.reduceMul, Nat.reduceEqDiff] <;> rfl)) fun w1 h1 hx1 => ?_
  have hs1 := hx1.size
  simp only [szR] at hs1
  have hz1 : w1.heap[w.heap.size + 1]? = some (.cells (entC noF 0).toArray 32 (0, 0)) := hx1.at (by first | with_reducible rfl | assumption | (simp (disch := first | assumption | omega | (simp only [szR, entC_len, entC_all, fdC_len, fdC_all] <;> omega) | rfl | decide) only [gen0, gen1, gen2, rulesM, litR, bolR, Nat.reduceAdd, Nat.reduceLeDiff, numR, memR, valR, heapR, updR, intR, decR, extR, slR, segR, thenR, pnR, Int.reduceToNat, Int.reduceAdd, Int.reduceSub, Int.reduceLT, Int.reduceLE, Nat.reduceSub, Nat.reduceMul, Nat.reduceEqDiff] <;> rfl)) (by simp)
  have hx1w : Ext [] w w1 := Ext.trans (S := []) (by (repeat first | assumption | exact Ext.refl | apply Ext.alloc | apply Ext.drew | (refine Ext.updN ?_ ?_; (focus first | omega | (simp only [szR] <;> omega))) | (refine Ext.updI ?_ ?_; (focus (simp; done))))) hx1 (by simp)
  have hsp : ∀ f n, splice (entC noF 0) 0 (entC f n) = entC f n := fun f n => splice_over (by rw [entC_len, entC_len])
  have hdr : ∀ f n, entC f n ++ List.drop (entC f n).length (entC noF 0) = entC f n := fun f n => by rw [entC_len]; simp [entC]
  by_cases h2 : k = 2
  · subst h2
    simp (disch := first | assumption | omega | (simp only [szR, entC_len, entC_all, fdC_len, fdC_all] <;> omega) | rfl | decide) only [gen0, gen1, gen2, rulesM, litR, bolR, Nat.reduceAdd, Nat.reduceLeDiff, numR, memR, valR, heapR, updR, intR, decR, extR, slR, segR, thenR, pnR, Int.reduceToNat, Int.reduceAdd, Int.reduceSub, Int.reduceLT, Int.reduceLE, Nat.reduceSub, Nat.reduceMul, Nat.reduceEqDiff, joinR]
    refine mark_spec (n := n) (is := true) (by omega) h1 fun w2 h2 hx2 => ?_
    have hz2 := hx2.at hz1 (by simp)
    have hx2w : Ext [] w w2 := hx1w.trans hx2 (by simp)
    simp (disch := first | assumption | omega | (simp only [szR, entC_len, entC_all, fdC_len, fdC_all] <;> omega) | rfl | decide) only [gen0, gen1, gen2, rulesM, litR, bolR, Nat.reduceAdd, Nat.reduceLeDiff, numR, memR, valR, heapR, updR, intR, decR, extR, slR, segR, thenR, pnR, Int.reduceToNat, Int.reduceAdd, Int.reduceSub, Int.reduceLT, Int.reduceLE, Nat.reduceSub, Nat.reduceMul, Nat.reduceEqDiff, joinR]
    refine mark_spec (n := n) (is := false) (by omega) h2 fun w3 h3 hx3 => ?_
    have hz3 := hx3.at hz2 (by simp)
    have hx3w : Ext [] w w3 := hx2w.trans hx3 (by simp)
    rw [markA_eq f 2 t true false n (by simp) (by simp)] at h3
    have l3 := lt_of_at hz3
    simp (disch := first | assumption | omega | (simp only [szR, entC_len, entC_all, fdC_len, fdC_all] <;> omega) | rfl | decide) only [gen0, gen1, gen2, rulesM, litR, bolR, Nat.reduceAdd, Nat.reduceLeDiff, numR, memR, valR, heapR, updR, intR, decR, extR, slR, segR, thenR, pnR, Int.reduceToNat, Int.reduceAdd, Int.reduceSub, Int.reduceLT, Int.reduceLE, Nat.reduceSub, Nat.reduceMul, Nat.reduceEqDiff, joinR, h3, hz3, entC_sub, hsp, hdr]
    exact hK _ (by (repeat first | assumption | exact Ext.refl | apply Ext.alloc | apply Ext.drew | (refine Ext.updN ?_ ?_; (focus first | omega | (simp only [szR] <;> omega))) | (refine Ext.updI ?_ ?_; (focus (simp; done)))))
  by_cases h4 : k = 4
  · subst h4
    simp (disch := first | assumption | omega | (simp only [szR, entC_len, entC_all, fdC_len, fdC_all] <;> omega) | rfl | decide) only [gen0, gen1, gen2, rulesM, litR, bolR, Nat.reduceAdd, Nat.reduceLeDiff, numR, memR, valR, heapR, updR, intR, decR, extR, slR, segR, thenR, pnR, Int.reduceToNat, Int.reduceAdd, Int.reduceSub, Int.reduceLT, Int.reduceLE, Nat.reduceSub, Nat.reduceMul, Nat.reduceEqDiff, joinR]
    refine mark_spec (n := n) (is := true) (by omega) h1 fun w2 h2 hx2 => ?_
    have hz2 := hx2.at hz1 (by simp)
    have hx2w : Ext [] w w2 := hx1w.trans hx2 (by simp)
    simp (disch := first | assumption | omega | (simp only [szR, entC_len, entC_all, fdC_len, fdC_all] <;> omega) | rfl | decide) only [gen0, gen1, gen2, rulesM, litR, bolR, Nat.reduceAdd, Nat.reduceLeDiff, numR, memR, valR, heapR, updR, intR, decR, extR, slR, segR, thenR, pnR, Int.reduceToNat, Int.reduceAdd, Int.reduceSub, Int.reduceLT, Int.reduceLE, Nat.reduceSub, Nat.reduceMul, Nat.reduceEqDiff, joinR]
    refine mark_spec (n := n) (is := t) (by omega) h2 fun w3 h3 hx3 => ?_
    have hz3 := hx3.at hz2 (by simp)
    have hx3w : Ext [] w w3 := hx2w.trans hx3 (by simp)
    rw [markA_eq f 4 t true t n (by simp) (by simp)] at h3
    have l3 := lt_of_at hz3
    simp (disch := first | assumption | omega | (simp only [szR, entC_len, entC_all, fdC_len, fdC_all] <;> omega) | rfl | decide) only [gen0, gen1, gen2, rulesM, litR, bolR, Nat.reduceAdd, Nat.reduceLeDiff, numR, memR, valR, heapR, updR, intR, decR, extR, slR, segR, thenR, pnR, Int.reduceToNat, Int.reduceAdd, Int.reduceSub, Int.reduceLT, Int.reduceLE, Nat.reduceSub, Nat.reduceMul, Nat.reduceEqDiff, joinR, h3, hz3, entC_sub, hsp, hdr]
    exact hK _ (by (repeat first | assumption | exact Ext.refl | apply Ext.alloc | apply Ext.drew | (refine Ext.updN ?_ ?_; (focus first | omega | (simp only [szR] <;> omega))) | (refine Ext.updI ?_ ?_; (focus (simp; done)))))
  simp (disch := first | assumption | omega | (simp only [szR, entC_len, entC_all, fdC_len, fdC_all] <;> omega) | rfl | decide) only [gen0, gen1, gen2, rulesM, litR, bolR, Nat.reduceAdd, Nat.reduceLeDiff, numR, memR, valR, heapR, updR, intR, decR, extR, slR, segR, thenR, pnR, Int.reduceToNat, Int.reduceAdd, Int.reduceSub, Int.reduceLT, Int.reduceLE, Nat.reduceSub, Nat.reduceMul, Nat.reduceEqDiff, joinR]
  refine mark_spec (n := n) (is := false) (by omega) h1 fun w2 h2 hx2 => ?_
  have hz2 := hx2.at hz1 (by simp)
  have hx2w : Ext [] w w2 := hx1w.trans hx2 (by simp)
  simp (disch := first | assumption | omega | (simp only [szR, entC_len, entC_all, fdC_len, fdC_all] <;> omega) | rfl | decide) only [gen0, gen1, gen2, rulesM, litR, bolR, Nat.reduceAdd, Nat.reduceLeDiff, numR, memR, valR, heapR, updR, intR, decR, extR, slR, segR, thenR, pnR, Int.reduceToNat, Int.reduceAdd, Int.reduceSub, Int.reduceLT, Int.reduceLE, Nat.reduceSub, Nat.reduceMul, Nat.reduceEqDiff, joinR]
  refine mark_spec (n := n) (is := false) (by omega) h2 fun w3 h3 hx3 => ?_
  have hz3 := hx3.at hz2 (by simp)
  have hx3w : Ext [] w w3 := hx2w.trans hx3 (by simp)
  rw [markA_eq f k t false false n (by simp [*]) (by simp [*])] at h3
  have l3 := lt_of_at hz3
  simp (disch := first | assumption | omega | (simp only [szR, entC_len, entC_all, fdC_len, fdC_all] <;> omega) | rfl | decide) only [gen0, gen1, gen2, rulesM, litR, bolR, Nat.reduceAdd, Nat.reduceLeDiff, numR, memR, valR, heapR, updR, intR, decR, extR, slR, segR, thenR, pnR, Int.reduceToNat, Int.reduceAdd, Int.reduceSub, Int.reduceLT, Int.reduceLE, Nat.reduceSub, Nat.reduceMul, Nat.reduceEqDiff, joinR, h3, hz3, entC_sub, hsp, hdr]
  exact hK _ (by (repeat first | assumption | exact Ext.refl | apply Ext.alloc | apply Ext.drew | (refine Ext.updN ?_ ?_; (focus first | omega | (simp only [szR] <;> omega))) | (refine Ext.updI ?_ ?_; (focus (simp; done)))))
theorem RMarked_spec {w : World} {f : Nat → Bool} {n : Nat} {k : Int} {t : Bool} {K : Value → World → Prop} (hK : ∀ w', Ext [] w w' → K (.agg (entC (markA f k t) n).toArray) w') : callsK Try.prog 24 #[.agg (entC f n).toArray, .int .i64 k, .bool t] w K := by
  have hsp : ∀ f n, splice (entC noF 0) 0 (entC f n) = entC f n := fun f n => splice_over (by rw [entC_len, entC_len])
  have hdr : ∀ f n, entC f n ++ List.drop (entC f n).length (entC noF 0) = entC f n := fun f n => by rw [entC_len]; simp [entC]
  have hset : ∀ (f : Nat → Bool) (n k : Nat) (v : Bool), k < 12 → (entC f n).set k (.bool v) = entC (upd1 f k v) n := fun f n k v h => entC_set h
  have hk : ∀ g w', (∀ j, j < 12 → g j = markA f k t j) → Ext [] w w' → K (.agg (entC g n).toArray) w' := fun g w' h hx => by rw [entC_congr h]; exact hK _ hx
  have hend : ∀ b1 b2, b1 = (f 7 || decide (k = 2 ∨ k = 4)) → b2 = (f 10 || (decide (k = 4) && t)) → ∀ j, j < 12 → upd1 (upd1 (upd1 f 6 true) 7 b1) 10 b2 j = markA f k t j := by
    intro b1 b2 h1 h2 j hj
    subst h1 h2
    unfold upd1 markA
    by_cases h6 : j = 6
    · subst h6; simp
    by_cases h7 : j = 7
    · subst h7; simp
    by_cases h10 : j = 10
    · subst h10; simp
    simp [h6, h7, h10]
  have u7 : ∀ v : Bool, upd1 f 6 v 7 = f 7 := fun v => rfl
  have u10 : ∀ v v' : Bool, upd1 (upd1 f 6 v) 7 v' 10 = f 10 := fun v v' => rfl
  apply F24_ok
  unfold F24
  cases h7 : f 7 <;> cases h10 : f 10
  all_goals
    by_cases h2 : k = 2
    · subst h2
      simp (disch := first | assumption | omega | (simp only [szR, entC_len, entC_all, fdC_len, fdC_all] <;> omega) | rfl | decide) only [gen0, gen1, gen2, rulesM, litR, bolR, Nat.reduceAdd, Nat.reduceLeDiff, numR, memR, valR, heapR, updR, intR, decR, extR, slR, segR, thenR, pnR, Int.reduceToNat, Int.reduceAdd, Int.reduceSub, Int.reduceLT, Int.reduceLE, Nat.reduceSub, Nat.reduceMul, Nat.reduceEqDiff, joinR, entC_zero, entC_at, hset, u7, u10, h7, h10, entC_sub, hsp, hdr]
      exact hk _ _ (hend _ _ (by simp [h7]) (by simp [h10])) (by (repeat first | assumption | exact Ext.refl | apply Ext.alloc | apply Ext.drew | (refine Ext.updN ?_ ?_; (focus first | omega | (simp only [szR] <;> omega))) | (refine Ext.updI ?_ ?_; (focus (simp; done)))))
    by_cases h4 : k = 4
    · subst h4
      simp (disch := first | assumption | omega | (simp only [szR, entC_len, entC_all, fdC_len, fdC_all] <;> omega) | rfl | decide) only [gen0, gen1, gen2, rulesM, litR, bolR, Nat.reduceAdd, Nat.reduceLeDiff, numR, memR, valR, heapR, updR, intR, decR, extR, slR, segR, thenR, pnR, Int.reduceToNat, Int.reduceAdd, Int.reduceSub, Int.reduceLT, Int.reduceLE, Nat.reduceSub, Nat.reduceMul, Nat.reduceEqDiff, joinR, entC_zero, entC_at, hset, u7, u10, h7, h10, entC_sub, hsp, hdr]
      exact hk _ _ (hend _ _ (by simp [h7]) (by simp [h10])) (by (repeat first | assumption | exact Ext.refl | apply Ext.alloc | apply Ext.drew | (refine Ext.updN ?_ ?_; (focus first | omega | (simp only [szR] <;> omega))) | (refine Ext.updI ?_ ?_; (focus (simp; done)))))
    simp (disch := first | assumption | omega | (simp only [szR, entC_len, entC_all, fdC_len, fdC_all] <;> omega) | rfl | decide) only [gen0, gen1, gen2, rulesM, litR, bolR, Nat.reduceAdd, Nat.reduceLeDiff, numR, memR, valR, heapR, updR, intR, decR, extR, slR, segR, thenR, pnR, Int.reduceToNat, Int.reduceAdd, Int.reduceSub, Int.reduceLT, Int.reduceLE, Nat.reduceSub, Nat.reduceMul, Nat.reduceEqDiff, joinR, entC_zero, entC_at, hset, u7, u10, h7, h10, entC_sub, hsp, hdr]
    exact hk _ _ (hend _ _ (by simp [h7, h2, h4]) (by simp [h10, h4])) (by (repeat first | assumption | exact Ext.refl | apply Ext.alloc | apply Ext.drew | (refine Ext.updN ?_ ?_; (focus first | omega | (simp only [szR] <;> omega))) | (refine Ext.updI ?_ ?_; (focus (simp; done)))))
theorem Strip_spec {w : World} {f : Nat → Bool} {n : Nat} {k : Int} {K : Value → World → Prop} (hK : ∀ w', Ext [] w w' → K (.bool (decide (k = 3) && !f 9)) w') : callsK Try.prog 25 #[.agg (entC f n).toArray, .int .i64 k] w K := by
  apply F25_ok
  unfold F25
  by_cases h3 : k = 3
  · subst h3
    simp (disch := first | assumption | omega | (simp only [szR, entC_len, entC_all, fdC_len, fdC_all] <;> omega) | rfl | decide) only [gen0, gen1, gen2, rulesM, litR, bolR, Nat.reduceAdd, Nat.reduceLeDiff, numR, memR, valR, heapR, updR, intR, decR, extR, slR, segR, thenR, pnR, Int.reduceToNat, Int.reduceAdd, Int.reduceSub, Int.reduceLT, Int.reduceLE, Nat.reduceSub, Nat.reduceMul, Nat.reduceEqDiff, joinR, entC_at]
    have := hK (w.alloc (.cells (entC f n).toArray 32)) (by (repeat first | assumption | exact Ext.refl | apply Ext.alloc | apply Ext.drew | (refine Ext.updN ?_ ?_; (focus first | omega | (simp only [szR] <;> omega))) | (refine Ext.updI ?_ ?_; (focus (simp; done)))))
    simpa using this
  · simp (disch := first | assumption | omega | (simp only [szR, entC_len, entC_all, fdC_len, fdC_all] <;> omega) | rfl | decide) only [gen0, gen1, gen2, rulesM, litR, bolR, Nat.reduceAdd, Nat.reduceLeDiff, numR, memR, valR, heapR, updR, intR, decR, extR, slR, segR, thenR, pnR, Int.reduceToNat, Int.reduceAdd, Int.reduceSub, Int.reduceLT, Int.reduceLE, Nat.reduceSub, Nat.reduceMul, Nat.reduceEqDiff, joinR, entC_at]
    have := hK (w.alloc (.cells (entC f n).toArray 32)) (by (repeat first | assumption | exact Ext.refl | apply Ext.alloc | apply Ext.drew | (refine Ext.updN ?_ ?_; (focus first | omega | (simp only [szR] <;> omega))) | (refine Ext.updI ?_ ?_; (focus (simp; done)))))
    rw [decide_eq_false h3] at this
    simpa using this
end Go.Proofs.Ytbigiabcgplkgaa
