/- The document's answer for entries: leaves, and right ones; conditions: those of each theorem. -/
import Derived.Test.YtfpcflmgipklcaaTRef1
namespace Go.Proofs.Ytfpcflmgipklcaa
open Go.Fx
set_option maxRecDepth 100000
set_option linter.unusedSimpArgs false
set_option linter.unusedVariables false
theorem RLeaf_spec {w : World} {f : Nat → Bool} {n : Nat} {K : Value → World → Prop} (hK : ∀ w', Ext [] w w' → K (.bool (leaf f)) w') : callsK Try.prog 37 #[.agg (entC f n).toArray] w K := by
  apply F37_ok
  unfold F37
  have hk : ∀ b, b = leaf f → K (.bool b) (w.alloc (.cells (entC f n).toArray 46)) := by rintro _ rfl; exact hK _ (by (repeat first | assumption | exact Ext.refl | apply Ext.alloc | apply Ext.drew | (refine Ext.updN ?_ ?_; (focus first | omega | (simp only [szR] <;> omega))) | (refine Ext.updI ?_ ?_; (focus (simp; done)))))
  clear hK
  cases h0 : f 0
  · simp (disch := first | assumption | omega | (simp only [szR, entC_len, entC_all] <;> omega) | rfl | decide) only [gen0, gen1, gen2, rulesM, rulesT, rulesQ, litR, bolR, Nat.reduceAdd, Nat.reduceLeDiff, numR, memR, valR, heapR, updR, intR, decR, extR, slR, segR, thenR, pnR, Int.reduceToNat, Int.reduceAdd, Int.reduceSub, Int.reduceLT, Int.reduceLE, Nat.reduceSub, Nat.reduceMul, Nat.reduceEqDiff, joinBR, entC_at, h0]
    exact hk _ (by simp [leaf, h0])
  cases h1 : f 1
  · cases h2 : f 2
    · simp (disch := first | assumption | omega | (simp only [szR, entC_len, entC_all] <;> omega) | rfl | decide) only [gen0, gen1, gen2, rulesM, rulesT, rulesQ, litR, bolR, Nat.reduceAdd, Nat.reduceLeDiff, numR, memR, valR, heapR, updR, intR, decR, extR, slR, segR, thenR, pnR, Int.reduceToNat, Int.reduceAdd, Int.reduceSub, Int.reduceLT, Int.reduceLE, Nat.reduceSub, Nat.reduceMul, Nat.reduceEqDiff, joinBR, entC_at, h0, h1, h2]
      exact hk _ (by simp [leaf, h0, h1, h2])
    · simp (disch := first | assumption | omega | (simp only [szR, entC_len, entC_all] <;> omega) | rfl | decide) only [gen0, gen1, gen2, rulesM, rulesT, rulesQ, litR, bolR, Nat.reduceAdd, Nat.reduceLeDiff, numR, memR, valR, heapR, updR, intR, decR, extR, slR, segR, thenR, pnR, Int.reduceToNat, Int.reduceAdd, Int.reduceSub, Int.reduceLT, Int.reduceLE, Nat.reduceSub, Nat.reduceMul, Nat.reduceEqDiff, joinBR, entC_at, h0, h1, h2]
      exact hk _ (by simp [leaf, h0, h1, h2])
  · simp (disch := first | assumption | omega | (simp only [szR, entC_len, entC_all] <;> omega) | rfl | decide) only [gen0, gen1, gen2, rulesM, rulesT, rulesQ, litR, bolR, Nat.reduceAdd, Nat.reduceLeDiff, numR, memR, valR, heapR, updR, intR, decR, extR, slR, segR, thenR, pnR, Int.reduceToNat, Int.reduceAdd, Int.reduceSub, Int.reduceLT, Int.reduceLE, Nat.reduceSub, Nat.reduceMul, Nat.reduceEqDiff, joinBR, entC_at, h0, h1]
    exact hk _ (by simp [leaf, h0, h1])
set_option maxHeartbeats 2000000 in
theorem RRight_spec {w : World} {f : Nat → Bool} {n : Nat} (hn : n < 18446744073709551616) {K : Value → World → Prop} (hK : ∀ w', Ext [] w w' → K (.bool (right f n)) w') : callsK Try.prog 38 #[.agg (entC f n).toArray] w K := by
  apply F38_ok
  unfold F38
  have hk : ∀ b w', b = right f n → Ext [] w w' → K (.bool b) w' := by rintro _ w' rfl h; exact hK _ h
  clear hK
  cases h0 : f 0
  · simp (disch := first | assumption | omega | (simp only [szR, entC_len, entC_all] <;> omega) | rfl | decide) only [gen0, gen1, gen2, rulesM, rulesT, rulesQ, litR, bolR, Nat.reduceAdd, Nat.reduceLeDiff, numR, memR, valR, heapR, updR, intR, decR, extR, slR, segR, thenR, pnR, Int.reduceToNat, Int.reduceAdd, Int.reduceSub, Int.reduceLT, Int.reduceLE, Nat.reduceSub, Nat.reduceMul, Nat.reduceEqDiff, joinBR, entC_at, h0]
    exact hk _ _ (by simp [right, h0]) (by (repeat first | assumption | exact Ext.refl | apply Ext.alloc | apply Ext.drew | (refine Ext.updN ?_ ?_; (focus first | omega | (simp only [szR] <;> omega))) | (refine Ext.updI ?_ ?_; (focus (simp; done)))))
  have hF : (f 2 = true → f 1 = true) → (f 8 = true → f 2 = true) → (f 9 = true → f 1 = true) → n < 17592186044416 → right f n = (leaf f || (!f 4 && !f 6 && !f 7 && !f 8 && !f 9 && !f 10 && !f 11)) := by
    intro g1 g2 g3 hn2
    unfold right
    rw [h0, decide_eq_true hn2]
    cases h2 : f 2 <;> cases h1 : f 1 <;> cases h8 : f 8 <;> cases h9 : f 9 <;> simp_all
  have hx0 : Ext [] w (w.alloc (.cells (entC f n).toArray 46)) := by (repeat first | assumption | exact Ext.refl | apply Ext.alloc | apply Ext.drew | (refine Ext.updN ?_ ?_; (focus first | omega | (simp only [szR] <;> omega))) | (refine Ext.updI ?_ ?_; (focus (simp; done))))
  cases h2 : f 2 <;> cases h1 : f 1 <;> cases h8 : f 8 <;> cases h9 : f 9
  all_goals by_cases hn2 : n < 17592186044416
  all_goals simp (disch := first | assumption | omega | (simp only [szR, entC_len, entC_all] <;> omega) | rfl | decide) only [gen0, gen1, gen2, rulesM, rulesT, rulesQ, litR, bolR, Nat.reduceAdd, Nat.reduceLeDiff, numR, memR, valR, heapR, updR, intR, decR, extR, slR, segR, thenR, pnR, Int.reduceToNat, Int.reduceAdd, Int.reduceSub, Int.reduceLT, Int.reduceLE, Nat.reduceSub, Nat.reduceMul, Nat.reduceEqDiff, joinBR, entC_at, entC_sub, h0, h1, h2, h8, h9]
  all_goals first
    | (refine hk _ _ ?_ hx0; first | (simp [right, h0, h1, h2, h8, h9]; done) | (simp [right, h0, h1, h2, h8, h9]; omega))
    | skip
  all_goals
    have hF2 := hF (by simp [h2, h1]) (by simp [h8, h2]) (by simp [h9, h1]) hn2
    clear hF
    refine RLeaf_spec fun w2 hx2 => ?_
    have hk2 := kept0 hx2
    have hx3 := hx0.trans hx2 (by simp)
    cases hl : leaf f
    · cases h4 : f 4
      · cases h6 : f 6
        · cases h7 : f 7
          · cases h10 : f 10
            · simp (disch := first | assumption | omega | (simp only [szR, entC_len, entC_all] <;> omega) | rfl | decide) only [gen0, gen1, gen2, rulesM, rulesT, rulesQ, litR, bolR, Nat.reduceAdd, Nat.reduceLeDiff, numR, memR, valR, heapR, updR, intR, decR, extR, slR, segR, thenR, pnR, Int.reduceToNat, Int.reduceAdd, Int.reduceSub, Int.reduceLT, Int.reduceLE, Nat.reduceSub, Nat.reduceMul, Nat.reduceEqDiff, joinBR, hk2, entC_at, h0, h1, h2, h8, h9, h4, h6, h7, h10]
              exact hk _ _ (by rw [hF2]; simp [hl, h4, h6, h7, h8, h9, h10]) hx3
            · simp (disch := first | assumption | omega | (simp only [szR, entC_len, entC_all] <;> omega) | rfl | decide) only [gen0, gen1, gen2, rulesM, rulesT, rulesQ, litR, bolR, Nat.reduceAdd, Nat.reduceLeDiff, numR, memR, valR, heapR, updR, intR, decR, extR, slR, segR, thenR, pnR, Int.reduceToNat, Int.reduceAdd, Int.reduceSub, Int.reduceLT, Int.reduceLE, Nat.reduceSub, Nat.reduceMul, Nat.reduceEqDiff, joinBR, hk2, entC_at, h0, h1, h2, h8, h9, h4, h6, h7, h10]
              exact hk _ _ (by rw [hF2]; simp [hl, h4, h6, h7, h8, h9, h10]) hx3
          · simp (disch := first | assumption | omega | (simp only [szR, entC_len, entC_all] <;> omega) | rfl | decide) only [gen0, gen1, gen2, rulesM, rulesT, rulesQ, litR, bolR, Nat.reduceAdd, Nat.reduceLeDiff, numR, memR, valR, heapR, updR, intR, decR, extR, slR, segR, thenR, pnR, Int.reduceToNat, Int.reduceAdd, Int.reduceSub, Int.reduceLT, Int.reduceLE, Nat.reduceSub, Nat.reduceMul, Nat.reduceEqDiff, joinBR, hk2, entC_at, h0, h1, h2, h8, h9, h4, h6, h7]
            exact hk _ _ (by rw [hF2]; simp [hl, h4, h6, h7]) hx3
        · simp (disch := first | assumption | omega | (simp only [szR, entC_len, entC_all] <;> omega) | rfl | decide) only [gen0, gen1, gen2, rulesM, rulesT, rulesQ, litR, bolR, Nat.reduceAdd, Nat.reduceLeDiff, numR, memR, valR, heapR, updR, intR, decR, extR, slR, segR, thenR, pnR, Int.reduceToNat, Int.reduceAdd, Int.reduceSub, Int.reduceLT, Int.reduceLE, Nat.reduceSub, Nat.reduceMul, Nat.reduceEqDiff, joinBR, hk2, entC_at, h0, h1, h2, h8, h9, h4, h6]
          exact hk _ _ (by rw [hF2]; simp [hl, h4, h6]) hx3
      · simp (disch := first | assumption | omega | (simp only [szR, entC_len, entC_all] <;> omega) | rfl | decide) only [gen0, gen1, gen2, rulesM, rulesT, rulesQ, litR, bolR, Nat.reduceAdd, Nat.reduceLeDiff, numR, memR, valR, heapR, updR, intR, decR, extR, slR, segR, thenR, pnR, Int.reduceToNat, Int.reduceAdd, Int.reduceSub, Int.reduceLT, Int.reduceLE, Nat.reduceSub, Nat.reduceMul, Nat.reduceEqDiff, joinBR, hk2, entC_at, h0, h1, h2, h8, h9, h4]
        exact hk _ _ (by rw [hF2]; simp [hl, h4]) hx3
    · simp (disch := first | assumption | omega | (simp only [szR, entC_len, entC_all] <;> omega) | rfl | decide) only [gen0, gen1, gen2, rulesM, rulesT, rulesQ, litR, bolR, Nat.reduceAdd, Nat.reduceLeDiff, numR, memR, valR, heapR, updR, intR, decR, extR, slR, segR, thenR, pnR, Int.reduceToNat, Int.reduceAdd, Int.reduceSub, Int.reduceLT, Int.reduceLE, Nat.reduceSub, Nat.reduceMul, Nat.reduceEqDiff, joinBR, hk2, entC_at, h0, h1, h2, h8, h9]
      exact hk _ _ (by rw [hF2]; simp [hl]) hx3
end Go.Proofs.Ytfpcflmgipklcaa
