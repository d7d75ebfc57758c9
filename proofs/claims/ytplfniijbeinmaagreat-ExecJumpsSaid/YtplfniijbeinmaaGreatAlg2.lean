/- Capabilities: whether one may have a tag; conditions: those of each theorem. -/
import Derived.Test.YtplfniijbeinmaaGreatAlg
namespace Go.Proofs.YtplfniijbeinmaaGreat
open Go.Fx
set_option maxRecDepth 100000
set_option linter.unusedSimpArgs false
set_option linter.unusedVariables false
/-- may it have a tag? -/
def rightM (m a : Nat) : Bool := (spM m a).isSome && decide (mtN (m % 4294967296) (m / 4294967296 % 512) (m / 281474976710656 % 4096) = m)
theorem vwC_zero : [.int .u64 0, .int .u64 0, .int .u64 0, .int .u64 0] = vwC 0 281474976710656 := by
  simp [vwC, spM, spn, spB, spT]
theorem vw_over (m a : Nat) : splice [.int .u64 0, .int .u64 0, .int .u64 0, .int .u64 0] 0 (vwC m a) = vwC m a := rfl
theorem vw_over2 (m a : Nat) : vwC m a ++ List.drop (vwC m a).length [.int .u64 0, .int .u64 0, .int .u64 0, .int .u64 0] = vwC m a := by simp [vwC]
theorem wordM (m : Nat) : wordF (m % 16384) (m / 16384 % 4096) (m / 67108864 % 64) 3 = m % 4294967296 := by
  rw [wordF_val (Nat.mod_lt _ (by decide)) (Nat.mod_lt _ (by decide)) (Nat.mod_lt _ (by decide))]
  omega
theorem Right_spec {w : World} {t : Bool} {m a : Nat} (hm : m < 18446744073709551616) (ha : a < 18446744073709551616) {K : Value → World → Prop} (hK : ∀ w', Ext [] w w' → K (.bool (rightM m a)) w') : callsK Tryz.prog 86 #[.agg (cpC t m a).toArray] w K := by
  apply F86_ok
  unfold F86
  simp (disch := first | assumption | omega | (simp only [szR, fdsC_len, fdsC_all, spC_len, spC_all, cpC_len, vwC_len, cpC_all, vwC_all] <;> omega) | rfl | decide) only [gen0, gen1, gen2, rulesC, rulesX, litR, bolR, Nat.reduceAdd, Nat.reduceLeDiff, numR, memR, valR, heapR, updR, intR, decR, extR, slR, segR, thenR, pnR, Int.reduceToNat, Int.reduceAdd, Int.reduceSub, Int.reduceLT, Int.reduceLE, Nat.reduceSub, Nat.reduceMul, Nat.reduceEqDiff, cpC_sub]
  refine Look_spec hm ha fun w1 hx1 => ?_
  have hxa : Ext [] w w1 := Ext.trans (by (repeat first | assumption | exact Ext.refl | apply Ext.alloc | apply Ext.drew | (refine Ext.updN ?_ ?_; (focus first | omega | (simp only [szR] <;> omega))) | (refine Ext.updI ?_ ?_; (focus (simp; done))))) hx1 (by simp)
  have h1 := hx1.at (b := w.heap.size) (o := .cells (cpC t m a).toArray 24 (0, 0)) (by first | with_reducible rfl | assumption | (simp (disch := first | assumption | omega | (simp only [szR, fdsC_len, fdsC_all, spC_len, spC_all, cpC_len, vwC_len, cpC_all, vwC_all] <;> omega) | rfl | decide) only [gen0, gen1, gen2, rulesC, rulesX, litR, bolR, Nat.reduceAdd, Nat.reduceLeDiff, numR, memR, valR, heapR, updR, intR, decR, extR, slR, segR, thenR, pnR, Int.reduceToNat, Int.reduceAdd, Int.reduceSub, Int.reduceLT, Int.reduceLE, Nat.reduceSub, Nat.reduceMul, Nat.reduceEqDiff] <;> rfl)) (by simp)
  have l1 := lt_of_at h1
  simp (disch := first | assumption | omega | (simp only [szR, fdsC_len, fdsC_all, spC_len, spC_all, cpC_len, vwC_len, cpC_all, vwC_all] <;> omega) | rfl | decide) only [gen0, gen1, gen2, rulesC, rulesX, litR, bolR, Nat.reduceAdd, Nat.reduceLeDiff, numR, memR, valR, heapR, updR, intR, decR, extR, slR, segR, thenR, pnR, Int.reduceToNat, Int.reduceAdd, Int.reduceSub, Int.reduceLT, Int.reduceLE, Nat.reduceSub, Nat.reduceMul, Nat.reduceEqDiff, vw_over, vw_over2]
  have hxb : Ext [] w (w1.alloc (.cells (vwC m a).toArray 28)).drew := by (repeat first | assumption | exact Ext.refl | apply Ext.alloc | apply Ext.drew | (refine Ext.updN ?_ ?_; (focus first | omega | (simp only [szR] <;> omega))) | (refine Ext.updI ?_ ?_; (focus (simp; done))))
  have h2 : (w1.alloc (.cells (vwC m a).toArray 28)).drew.heap[w.heap.size]? = some (.cells (cpC t m a).toArray 24 (0, 0)) := (by first | with_reducible rfl | assumption | (simp (disch := first | assumption | omega | (simp only [szR, fdsC_len, fdsC_all, spC_len, spC_all, cpC_len, vwC_len, cpC_all, vwC_all] <;> omega) | rfl | decide) only [gen0, gen1, gen2, rulesC, rulesX, litR, bolR, Nat.reduceAdd, Nat.reduceLeDiff, numR, memR, valR, heapR, updR, intR, decR, extR, slR, segR, thenR, pnR, Int.reduceToNat, Int.reduceAdd, Int.reduceSub, Int.reduceLT, Int.reduceLE, Nat.reduceSub, Nat.reduceMul, Nat.reduceEqDiff, h1] <;> rfl))
  have h3 : (w1.alloc (.cells (vwC m a).toArray 28)).drew.heap[w1.heap.size]? = some (.cells (vwC m a).toArray 28 (0, 0)) := (by first | with_reducible rfl | assumption | (simp (disch := first | assumption | omega | (simp only [szR, fdsC_len, fdsC_all, spC_len, spC_all, cpC_len, vwC_len, cpC_all, vwC_all] <;> omega) | rfl | decide) only [gen0, gen1, gen2, rulesC, rulesX, litR, bolR, Nat.reduceAdd, Nat.reduceLeDiff, numR, memR, valR, heapR, updR, intR, decR, extR, slR, segR, thenR, pnR, Int.reduceToNat, Int.reduceAdd, Int.reduceSub, Int.reduceLT, Int.reduceLE, Nat.reduceSub, Nat.reduceMul, Nat.reduceEqDiff] <;> rfl))
  generalize (w1.alloc (.cells (vwC m a).toArray 28)).drew = w2 at *
  have g1 : (cpC t m a)[1]? = some (.int .u64 (m : Nat)) := rfl
  have hR' : rightM m a = ((spM m a).isSome && decide (mtN (m % 4294967296) (m / 4294967296 % 512) (m / 281474976710656 % 4096) = m)) := rfl
  rw [hR'] at hK
  have hw := wordM m
  obtain ⟨X, hX⟩ : ∃ X, X = (spM m a).isSome := ⟨_, rfl⟩
  obtain ⟨q, hq⟩ : ∃ q, q = mtN (m % 4294967296) (m / 4294967296 % 512) (m / 281474976710656 % 4096) := ⟨_, rfl⟩
  rw [← hX, ← hq] at hK
  rw [← hX]
  refine relX.ext [] ?_
  refine postX.is (.bool X) (fun v w' hR _ => okX.is) ?_
  refine postX.is (.bool X) (fun v w' hR hd => by
    obtain ⟨d1, -⟩ := hd
    rw [d1]
    exact okX.is) ?_
  refine postX.is (bif X then .pointer (some ⟨w.heap.size, 1, none⟩) else undef) (fun v w' hR hd => by
    obtain ⟨d1, -⟩ := hd
    cases X <;> simp (disch := first | assumption | omega | (simp only [szR, fdsC_len, fdsC_all, spC_len, spC_all, cpC_len, vwC_len, cpC_all, vwC_all] <;> omega) | rfl | decide) only [gen0, gen1, gen2, rulesC, rulesX, litR, bolR, Nat.reduceAdd, Nat.reduceLeDiff, numR, memR, valR, heapR, updR, intR, decR, extR, slR, segR, thenR, pnR, Int.reduceToNat, Int.reduceAdd, Int.reduceSub, Int.reduceLT, Int.reduceLE, Nat.reduceSub, Nat.reduceMul, Nat.reduceEqDiff, d1, cond_true, cond_false] <;> exact okX.is) ?_
  refine postX.is (bif X then .int .u64 (m : Nat) else undef) (fun v w' hR hd => by
    obtain ⟨d1, d2, -⟩ := hd
    have e := hR.at h2 (by simp)
    cases X <;> simp (disch := first | assumption | omega | (simp only [szR, fdsC_len, fdsC_all, spC_len, spC_all, cpC_len, vwC_len, cpC_all, vwC_all] <;> omega) | rfl | decide) only [gen0, gen1, gen2, rulesC, rulesX, litR, bolR, Nat.reduceAdd, Nat.reduceLeDiff, numR, memR, valR, heapR, updR, intR, decR, extR, slR, segR, thenR, pnR, Int.reduceToNat, Int.reduceAdd, Int.reduceSub, Int.reduceLT, Int.reduceLE, Nat.reduceSub, Nat.reduceMul, Nat.reduceEqDiff, d1, d2, e, g1, cond_true, cond_false] <;> exact okX.is) ?_
  refine postX.is (bif X then .agg (fdsC (m % 16384) (m / 16384 % 4096) (m / 67108864 % 64)).toArray else undef) (fun v w' hR hd => by
    obtain ⟨d1, d2, -⟩ := hd
    cases X <;> simp (disch := first | assumption | omega | (simp only [szR, fdsC_len, fdsC_all, spC_len, spC_all, cpC_len, vwC_len, cpC_all, vwC_all] <;> omega) | rfl | decide) only [gen0, gen1, gen2, rulesC, rulesX, litR, bolR, Nat.reduceAdd, Nat.reduceLeDiff, numR, memR, valR, heapR, updR, intR, decR, extR, slR, segR, thenR, pnR, Int.reduceToNat, Int.reduceAdd, Int.reduceSub, Int.reduceLT, Int.reduceLE, Nat.reduceSub, Nat.reduceMul, Nat.reduceEqDiff, d1, d2, cond_true, cond_false]
    · exact okX.is
    · exact BOf_spec hm fun w'' hx => okX.mk hx rfl) ?_
  refine postX.is (bif X then .agg (vwC m a).toArray else undef) (fun v w' hR hd => by
    obtain ⟨d1, -⟩ := hd
    have e := hR.at h3 (by simp)
    cases X <;> simp (disch := first | assumption | omega | (simp only [szR, fdsC_len, fdsC_all, spC_len, spC_all, cpC_len, vwC_len, cpC_all, vwC_all] <;> omega) | rfl | decide) only [gen0, gen1, gen2, rulesC, rulesX, litR, bolR, Nat.reduceAdd, Nat.reduceLeDiff, numR, memR, valR, heapR, updR, intR, decR, extR, slR, segR, thenR, pnR, Int.reduceToNat, Int.reduceAdd, Int.reduceSub, Int.reduceLT, Int.reduceLE, Nat.reduceSub, Nat.reduceMul, Nat.reduceEqDiff, d1, e, vwC_sub, cond_true, cond_false] <;> exact okX.is) ?_
  refine postX.is (bif X then .int .u64 (q : Nat) else undef) (fun v w' hR hd => by
    obtain ⟨d1, d2, d3, -⟩ := hd
    cases X <;> simp (disch := first | assumption | omega | (simp only [szR, fdsC_len, fdsC_all, spC_len, spC_all, cpC_len, vwC_len, cpC_all, vwC_all] <;> omega) | rfl | decide) only [gen0, gen1, gen2, rulesC, rulesX, litR, bolR, Nat.reduceAdd, Nat.reduceLeDiff, numR, memR, valR, heapR, updR, intR, decR, extR, slR, segR, thenR, pnR, Int.reduceToNat, Int.reduceAdd, Int.reduceSub, Int.reduceLT, Int.reduceLE, Nat.reduceSub, Nat.reduceMul, Nat.reduceEqDiff, d1, d2, d3, cond_true, cond_false]
    · exact okX.is
    · refine meta_spec (b0 := .int .u64 (spB (spM m a) : Nat)) (b1 := .int .u64 (spT (spM m a) : Nat)) (by omega) (by omega) (by omega) (by rw [hw]; omega) (by omega) (by omega) fun w'' hx => okX.mk hx ?_
      rw [hw, ← hq]) ?_
  refine postX.is (bif X then .pointer (some ⟨w.heap.size, 1, none⟩) else undef) (fun v w' hR hd => by
    obtain ⟨d1, -⟩ := hd
    cases X <;> simp (disch := first | assumption | omega | (simp only [szR, fdsC_len, fdsC_all, spC_len, spC_all, cpC_len, vwC_len, cpC_all, vwC_all] <;> omega) | rfl | decide) only [gen0, gen1, gen2, rulesC, rulesX, litR, bolR, Nat.reduceAdd, Nat.reduceLeDiff, numR, memR, valR, heapR, updR, intR, decR, extR, slR, segR, thenR, pnR, Int.reduceToNat, Int.reduceAdd, Int.reduceSub, Int.reduceLT, Int.reduceLE, Nat.reduceSub, Nat.reduceMul, Nat.reduceEqDiff, d1, cond_true, cond_false] <;> exact okX.is) ?_
  refine postX.is (bif X then .int .u64 (m : Nat) else undef) (fun v w' hR hd => by
    obtain ⟨d1, d2, -⟩ := hd
    have e := hR.at h2 (by simp)
    cases X <;> simp (disch := first | assumption | omega | (simp only [szR, fdsC_len, fdsC_all, spC_len, spC_all, cpC_len, vwC_len, cpC_all, vwC_all] <;> omega) | rfl | decide) only [gen0, gen1, gen2, rulesC, rulesX, litR, bolR, Nat.reduceAdd, Nat.reduceLeDiff, numR, memR, valR, heapR, updR, intR, decR, extR, slR, segR, thenR, pnR, Int.reduceToNat, Int.reduceAdd, Int.reduceSub, Int.reduceLT, Int.reduceLE, Nat.reduceSub, Nat.reduceMul, Nat.reduceEqDiff, d1, d2, e, g1, cond_true, cond_false] <;> exact okX.is) ?_
  refine postX.is (bif X then .bool (decide (q = m)) else undef) (fun v w' hR hd => by
    obtain ⟨d1, d2, d3, -⟩ := hd
    have he : ((q : Int) == (m : Int)) = decide (q = m) := by
      rw [Bool.eq_iff_iff, beq_iff_eq, decide_eq_true_eq]
      omega
    cases X
    · simp (disch := first | assumption | omega | (simp only [szR, fdsC_len, fdsC_all, spC_len, spC_all, cpC_len, vwC_len, cpC_all, vwC_all] <;> omega) | rfl | decide) only [gen0, gen1, gen2, rulesC, rulesX, litR, bolR, Nat.reduceAdd, Nat.reduceLeDiff, numR, memR, valR, heapR, updR, intR, decR, extR, slR, segR, thenR, pnR, Int.reduceToNat, Int.reduceAdd, Int.reduceSub, Int.reduceLT, Int.reduceLE, Nat.reduceSub, Nat.reduceMul, Nat.reduceEqDiff, d1, cond_false]
      exact okX.is
    · by_cases hqm : q = m
      · simp (disch := first | assumption | omega | (simp only [szR, fdsC_len, fdsC_all, spC_len, spC_all, cpC_len, vwC_len, cpC_all, vwC_all] <;> omega) | rfl | decide) only [gen0, gen1, gen2, rulesC, rulesX, litR, bolR, Nat.reduceAdd, Nat.reduceLeDiff, numR, memR, valR, heapR, updR, intR, decR, extR, slR, segR, thenR, pnR, Int.reduceToNat, Int.reduceAdd, Int.reduceSub, Int.reduceLT, Int.reduceLE, Nat.reduceSub, Nat.reduceMul, Nat.reduceEqDiff, d1, d2, d3, cond_true, decide_eq_true hqm]
        exact okX.is
      · simp (disch := first | assumption | omega | (simp only [szR, fdsC_len, fdsC_all, spC_len, spC_all, cpC_len, vwC_len, cpC_all, vwC_all] <;> omega) | rfl | decide) only [gen0, gen1, gen2, rulesC, rulesX, litR, bolR, Nat.reduceAdd, Nat.reduceLeDiff, numR, memR, valR, heapR, updR, intR, decR, extR, slR, segR, thenR, pnR, Int.reduceToNat, Int.reduceAdd, Int.reduceSub, Int.reduceLT, Int.reduceLE, Nat.reduceSub, Nat.reduceMul, Nat.reduceEqDiff, d1, d2, d3, cond_true, decide_eq_false hqm]
        exact okX.is) ?_
  refine postX.is (.bool (X && decide (q = m))) (fun v w' hR hd => by
    obtain ⟨d1, d2, -⟩ := hd
    cases X <;> simp (disch := first | assumption | omega | (simp only [szR, fdsC_len, fdsC_all, spC_len, spC_all, cpC_len, vwC_len, cpC_all, vwC_all] <;> omega) | rfl | decide) only [gen0, gen1, gen2, rulesC, rulesX, litR, bolR, Nat.reduceAdd, Nat.reduceLeDiff, numR, memR, valR, heapR, updR, intR, decR, extR, slR, segR, thenR, pnR, Int.reduceToNat, Int.reduceAdd, Int.reduceSub, Int.reduceLT, Int.reduceLE, Nat.reduceSub, Nat.reduceMul, Nat.reduceEqDiff, d1, d2, cond_true, cond_false, Bool.true_and, Bool.false_and] <;> exact okX.is) ?_
  intro v w3 hR hd _
  obtain ⟨-, -, -, -, -, -, -, -, -, -, d20, -⟩ := hd
  rw [d20]
  exact hK w3 (hxb.trans hR (by simp))
end Go.Proofs.YtplfniijbeinmaaGreat
