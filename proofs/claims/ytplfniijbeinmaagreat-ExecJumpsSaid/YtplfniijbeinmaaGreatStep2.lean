/- An instruction that is run: what loads, or stores, capabilities; addi; conditions: those of each theorem. -/
import Derived.Test.YtplfniijbeinmaaGreatStep1
namespace Go.Proofs.YtplfniijbeinmaaGreat
open Go.Fx
set_option maxRecDepth 100000
set_option linter.unusedSimpArgs false
set_option linter.unusedVariables false
/-- the two blocks that each part of an instruction makes for its answer. -/
theorem two_x (w : World) : Ext [] w ((w.alloc (.cells (cxC zeroX).toArray 42)).alloc (.cells [.int .i64 0, .int .i64 0, .int .u64 0, .int .i64 0, .int .i64 0, .int .i64 0, .int .i64 0, .int .i64 0].toArray 51)) := Ext.alloc (Ext.alloc Ext.refl _ _) _ _
theorem two_1 (w : World) : ((w.alloc (.cells (cxC zeroX).toArray 42)).alloc (.cells [.int .i64 0, .int .i64 0, .int .u64 0, .int .i64 0, .int .i64 0, .int .i64 0, .int .i64 0, .int .i64 0].toArray 51)).heap[w.heap.size]? = some (.cells (cxC zeroX).toArray 42 (0, 0)) := (alloc_ne (by simp only [szR]; omega)).trans (alloc_at rfl)
theorem two_2 (w : World) : ((w.alloc (.cells (cxC zeroX).toArray 42)).alloc (.cells [.int .i64 0, .int .i64 0, .int .u64 0, .int .i64 0, .int .i64 0, .int .i64 0, .int .i64 0, .int .i64 0].toArray 51)).heap[w.heap.size + 1]? = some (.cells [.int .i64 0, .int .i64 0, .int .u64 0, .int .i64 0, .int .i64 0, .int .i64 0, .int .i64 0, .int .i64 0].toArray 51 (0, 0)) := alloc_at (by simp only [szR])
theorem runMem_spec {w : World} {q k e va : Nat} {r : Rn} {d : Nat → Cq} {S : List Nat} {Post : World → Prop} (hr : w.heap[q]? = some (.cells (rnC r).toArray 91 (0, 0))) (ho : r.i.op = 43 ∨ r.i.op = 44) (hS : ∀ k ∈ S, k < w.heap.size)
    (hP : ∀ (w1 w2 : World) (T : List Nat), Post w1 → Ext T w1 w2 → (∀ k ∈ T, w.heap.size ≤ k) → Post w2)
    (hm : ∀ (w1 : World) (K : Value → World → Prop), Ext [] w w1 → (∀ w2, Ext S w1 w2 → Post w2 → K (.tuple #[.agg (cxC d).toArray, .agg (ouC k e va r.i).toArray]) w2) → callsK Tryz.prog 73 #[.pointer (some ⟨q, 0, none⟩), .int .i64 16] w1 K)
    {K : Value → World → Prop} (hK : ∀ w', Ext S w w' → Post w' → K (.tuple #[.agg (cxC d).toArray, .agg (ouC k e va r.i).toArray]) w') : callsK Tryz.prog 32 #[.pointer (some ⟨q, 0, none⟩)] w K := by
  apply F32_ok
  unfold F32
  have l0 := lt_of_at hr
  have eop := rn_op r
  simp (disch := first | assumption | omega | (simp only [szR, cq_len, cq_all, cxC_len, cxC_all, inC_len, inC_all, rnC_len, rnC_all, ouC_len, ouC_all, vwC_len, vwC_all] <;> omega) | rfl | decide) only [gen0, gen1, gen2, rulesC, rulesX, rulesM, litR, bolR, Nat.reduceAdd, Nat.reduceLeDiff, numR, memR, valR, heapR, updR, intR, decR, extR, slR, segR, thenR, pnR, Int.reduceToNat, Int.reduceAdd, Int.reduceSub, Int.reduceLT, Int.reduceLE, Nat.reduceSub, Nat.reduceMul, Nat.reduceEqDiff, zeroX_cells]
  have hx0 := two_x w
  have g1 := two_1 w
  have g2 := two_2 w
  have g0 := hx0.at hr (by simp)
  simp (disch := first | assumption | omega | (simp only [szR, cq_len, cq_all, cxC_len, cxC_all, inC_len, inC_all, rnC_len, rnC_all, ouC_len, ouC_all, vwC_len, vwC_all] <;> omega) | rfl | decide) only [gen0, gen1, gen2, rulesC, rulesX, rulesM, litR, bolR, Nat.reduceAdd, Nat.reduceLeDiff, numR, memR, valR, heapR, updR, intR, decR, extR, slR, segR, thenR, pnR, Int.reduceToNat, Int.reduceAdd, Int.reduceSub, Int.reduceLT, Int.reduceLE, Nat.reduceSub, Nat.reduceMul, Nat.reduceEqDiff, hr, eop]
  refine branches_spec (by omega) ?_
  rw [decide_eq_false (by omega)]
  simp (disch := first | assumption | omega | (simp only [szR, cq_len, cq_all, cxC_len, cxC_all, inC_len, inC_all, rnC_len, rnC_all, ouC_len, ouC_all, vwC_len, vwC_all] <;> omega) | rfl | decide) only [gen0, gen1, gen2, rulesC, rulesX, rulesM, litR, bolR, Nat.reduceAdd, Nat.reduceLeDiff, numR, memR, valR, heapR, updR, intR, decR, extR, slR, segR, thenR, pnR, Int.reduceToNat, Int.reduceAdd, Int.reduceSub, Int.reduceLT, Int.reduceLE, Nat.reduceSub, Nat.reduceMul, Nat.reduceEqDiff]
  refine width16_spec ho fun w2 hx2 => ?_
  simp (disch := first | assumption | omega | (simp only [szR, cq_len, cq_all, cxC_len, cxC_all, inC_len, inC_all, rnC_len, rnC_all, ouC_len, ouC_all, vwC_len, vwC_all] <;> omega) | rfl | decide) only [gen0, gen1, gen2, rulesC, rulesX, rulesM, litR, bolR, Nat.reduceAdd, Nat.reduceLeDiff, numR, memR, valR, heapR, updR, intR, decR, extR, slR, segR, thenR, pnR, Int.reduceToNat, Int.reduceAdd, Int.reduceSub, Int.reduceLT, Int.reduceLE, Nat.reduceSub, Nat.reduceMul, Nat.reduceEqDiff]
  refine width16_spec ho fun w3 hx3 => ?_
  have hx4 : Ext [] ((w.alloc (.cells (cxC zeroX).toArray 42)).alloc (.cells [.int .i64 0, .int .i64 0, .int .u64 0, .int .i64 0, .int .i64 0, .int .i64 0, .int .i64 0, .int .i64 0].toArray 51)) w3 := Ext.trans (S := []) (by (repeat first | assumption | exact Ext.refl | apply Ext.alloc | apply Ext.drew | (refine Ext.updN ?_ ?_; (focus first | omega | (simp only [szR] <;> omega))) | (refine Ext.updI ?_ ?_; (focus (simp; done))))) hx3 (by simp)
  simp (disch := first | assumption | omega | (simp only [szR, cq_len, cq_all, cxC_len, cxC_all, inC_len, inC_all, rnC_len, rnC_all, ouC_len, ouC_all, vwC_len, vwC_all] <;> omega) | rfl | decide) only [gen0, gen1, gen2, rulesC, rulesX, rulesM, litR, bolR, Nat.reduceAdd, Nat.reduceLeDiff, numR, memR, valR, heapR, updR, intR, decR, extR, slR, segR, thenR, pnR, Int.reduceToNat, Int.reduceAdd, Int.reduceSub, Int.reduceLT, Int.reduceLE, Nat.reduceSub, Nat.reduceMul, Nat.reduceEqDiff]
  have hx5 := hx0.trans hx4 (by simp)
  refine hm w3 _ hx5 fun w6 hx6 hp6 => ?_
  have k1 := hx6.at (hx4.at g1 (by simp)) (fun hc => by have := hS _ hc; omega)
  have k2 := hx6.at (hx4.at g2 (by simp)) (fun hc => by have := hS _ hc; omega)
  have lk1 := lt_of_at k1
  have lk2 := lt_of_at k2
  simp (disch := first | assumption | omega | (simp only [szR, cq_len, cq_all, cxC_len, cxC_all, inC_len, inC_all, rnC_len, rnC_all, ouC_len, ouC_all, vwC_len, vwC_all] <;> omega) | rfl | decide) only [gen0, gen1, gen2, rulesC, rulesX, rulesM, litR, bolR, Nat.reduceAdd, Nat.reduceLeDiff, numR, memR, valR, heapR, updR, intR, decR, extR, slR, segR, thenR, pnR, Int.reduceToNat, Int.reduceAdd, Int.reduceSub, Int.reduceLT, Int.reduceLE, Nat.reduceSub, Nat.reduceMul, Nat.reduceEqDiff, k1, k2, cx_over, cx_put, ou_over, ou_put, cx_sub, ou_sub]
  have hxo : Ext [w.heap.size, w.heap.size + 1] w6 (World.upd (World.upd w6 w.heap.size (cxC d)) (w.heap.size + 1) (ouC k e va r.i)) := by (repeat first | assumption | exact Ext.refl | apply Ext.alloc | apply Ext.drew | (refine Ext.updN ?_ ?_; (focus first | omega | (simp only [szR] <;> omega))) | (refine Ext.updI ?_ ?_; (focus (simp; done))))
  have hxz : Ext S w (World.upd (World.upd w6 w.heap.size (cxC d)) (w.heap.size + 1) (ouC k e va r.i)) := ((hx5.mono (by simp)).step hx6).trans hxo (by simp)
  exact hK _ hxz (hP _ _ _ hp6 hxo (by simp))
theorem runAddi_spec {w : World} {q : Nat} {r : Rn} (hr : w.heap[q]? = some (.cells (rnC r).toArray 91 (0, 0))) (ho : r.i.op = 22) (hrd : r.i.rd < 9223372036854775808) (him : r.i.im < 9223372036854775808) (hsum : r.a.a + r.i.im < 18446744073709551616)
    {K : Value → World → Prop} (hK : ∀ w', Ext [q] w w' → K (.tuple #[.agg (cxC (withX r.c r.i.rd ⟨false, 0, r.a.a + r.i.im⟩)).toArray, .agg (ouC 0 0 0 r.i).toArray]) w') : callsK Tryz.prog 32 #[.pointer (some ⟨q, 0, none⟩)] w K := by
  apply F32_ok
  unfold F32
  have l0 := lt_of_at hr
  have eop := rn_op r
  rw [ho] at eop
  simp (disch := first | assumption | omega | (simp only [szR, cq_len, cq_all, cxC_len, cxC_all, inC_len, inC_all, rnC_len, rnC_all, ouC_len, ouC_all, vwC_len, vwC_all] <;> omega) | rfl | decide) only [gen0, gen1, gen2, rulesC, rulesX, rulesM, litR, bolR, Nat.reduceAdd, Nat.reduceLeDiff, numR, memR, valR, heapR, updR, intR, decR, extR, slR, segR, thenR, pnR, Int.reduceToNat, Int.reduceAdd, Int.reduceSub, Int.reduceLT, Int.reduceLE, Nat.reduceSub, Nat.reduceMul, Nat.reduceEqDiff, zeroX_cells]
  have hx0 := two_x w
  have g1 := two_1 w
  have g2 := two_2 w
  have g0 := hx0.at hr (by simp)
  simp (disch := first | assumption | omega | (simp only [szR, cq_len, cq_all, cxC_len, cxC_all, inC_len, inC_all, rnC_len, rnC_all, ouC_len, ouC_all, vwC_len, vwC_all] <;> omega) | rfl | decide) only [gen0, gen1, gen2, rulesC, rulesX, rulesM, litR, bolR, Nat.reduceAdd, Nat.reduceLeDiff, numR, memR, valR, heapR, updR, intR, decR, extR, slR, segR, thenR, pnR, Int.reduceToNat, Int.reduceAdd, Int.reduceSub, Int.reduceLT, Int.reduceLE, Nat.reduceSub, Nat.reduceMul, Nat.reduceEqDiff, hr, eop]
  refine branches_spec (n := 22) (by omega) ?_
  rw [decide_eq_false (by omega)]
  simp (disch := first | assumption | omega | (simp only [szR, cq_len, cq_all, cxC_len, cxC_all, inC_len, inC_all, rnC_len, rnC_all, ouC_len, ouC_all, vwC_len, vwC_all] <;> omega) | rfl | decide) only [gen0, gen1, gen2, rulesC, rulesX, rulesM, litR, bolR, Nat.reduceAdd, Nat.reduceLeDiff, numR, memR, valR, heapR, updR, intR, decR, extR, slR, segR, thenR, pnR, Int.reduceToNat, Int.reduceAdd, Int.reduceSub, Int.reduceLT, Int.reduceLE, Nat.reduceSub, Nat.reduceMul, Nat.reduceEqDiff]
  refine width0_spec (n := 22) (by omega) fun w2 hx2 => ?_
  have k0 := hx2.at g0 (by simp)
  have k1 := hx2.at g1 (by simp)
  have k2 := hx2.at g2 (by simp)
  have e2 := rn_ba r
  have e3 := rn_im r
  have e4 := rn_aa r
  have lk0 := lt_of_at k0
  have lk1 := lt_of_at k1
  have lk2 := lt_of_at k2
  simp (disch := first | assumption | omega | (simp only [szR, cq_len, cq_all, cxC_len, cxC_all, inC_len, inC_all, rnC_len, rnC_all, ouC_len, ouC_all, vwC_len, vwC_all] <;> omega) | rfl | decide) only [gen0, gen1, gen2, rulesC, rulesX, rulesM, litR, bolR, Nat.reduceAdd, Nat.reduceLeDiff, numR, memR, valR, heapR, updR, intR, decR, extR, slR, segR, thenR, pnR, Int.reduceToNat, Int.reduceAdd, Int.reduceSub, Int.reduceLT, Int.reduceLE, Nat.reduceSub, Nat.reduceMul, Nat.reduceEqDiff, k0, e2]
  refine joinL.intro fun J0 hJ0 => ?_
  refine immediate_spec (n := 22) (by omega) ?_
  rw [decide_eq_true (by omega)]
  simp (disch := first | assumption | omega | (simp only [szR, cq_len, cq_all, cxC_len, cxC_all, inC_len, inC_all, rnC_len, rnC_all, ouC_len, ouC_all, vwC_len, vwC_all] <;> omega) | rfl | decide) only [gen0, gen1, gen2, rulesC, rulesX, rulesM, litR, bolR, Nat.reduceAdd, Nat.reduceLeDiff, numR, memR, valR, heapR, updR, intR, decR, extR, slR, segR, thenR, pnR, Int.reduceToNat, Int.reduceAdd, Int.reduceSub, Int.reduceLT, Int.reduceLE, Nat.reduceSub, Nat.reduceMul, Nat.reduceEqDiff, k0, e3]
  apply hJ0
  intro _
  simp (disch := first | assumption | omega | (simp only [szR, cq_len, cq_all, cxC_len, cxC_all, inC_len, inC_all, rnC_len, rnC_all, ouC_len, ouC_all, vwC_len, vwC_all] <;> omega) | rfl | decide) only [gen0, gen1, gen2, rulesC, rulesX, rulesM, litR, bolR, Nat.reduceAdd, Nat.reduceLeDiff, numR, memR, valR, heapR, updR, intR, decR, extR, slR, segR, thenR, pnR, Int.reduceToNat, Int.reduceAdd, Int.reduceSub, Int.reduceLT, Int.reduceLE, Nat.reduceSub, Nat.reduceMul, Nat.reduceEqDiff, k0, e4, List.getD_cons_zero]
  refine addi_spec (x := r.a.a) (y := r.i.im) hsum ?_
  simp (disch := first | assumption | omega | (simp only [szR, cq_len, cq_all, cxC_len, cxC_all, inC_len, inC_all, rnC_len, rnC_all, ouC_len, ouC_all, vwC_len, vwC_all] <;> omega) | rfl | decide) only [gen0, gen1, gen2, rulesC, rulesX, rulesM, litR, bolR, Nat.reduceAdd, Nat.reduceLeDiff, numR, memR, valR, heapR, updR, intR, decR, extR, slR, segR, thenR, pnR, Int.reduceToNat, Int.reduceAdd, Int.reduceSub, Int.reduceLT, Int.reduceLE, Nat.reduceSub, Nat.reduceMul, Nat.reduceEqDiff]
  refine num_spec k0 hrd fun w3 hx3 => ?_
  have hqs : w.heap.size ≠ q ∧ w.heap.size + 1 ≠ q := by omega
  have m1 := hx3.at k1 (by simp; omega)
  have m2 := hx3.at k2 (by simp; omega)
  have lm1 := lt_of_at m1
  have lm2 := lt_of_at m2
  have hx5 : Ext [q] w w3 := ((hx0.trans hx2 (by simp)).mono (by simp)).step hx3
  simp (disch := first | assumption | omega | (simp only [szR, cq_len, cq_all, cxC_len, cxC_all, inC_len, inC_all, rnC_len, rnC_all, ouC_len, ouC_all, vwC_len, vwC_all] <;> omega) | rfl | decide) only [gen0, gen1, gen2, rulesC, rulesX, rulesM, litR, bolR, Nat.reduceAdd, Nat.reduceLeDiff, numR, memR, valR, heapR, updR, intR, decR, extR, slR, segR, thenR, pnR, Int.reduceToNat, Int.reduceAdd, Int.reduceSub, Int.reduceLT, Int.reduceLE, Nat.reduceSub, Nat.reduceMul, Nat.reduceEqDiff, m1, m2, cx_over, cx_put, ou_over, ou_put, cx_sub, ou_sub]
  generalize withX r.c r.i.rd ⟨false, 0, r.a.a + r.i.im⟩ = d at *
  have hxo : Ext [w.heap.size, w.heap.size + 1] w3 (World.upd (World.upd w3 w.heap.size (cxC d)) (w.heap.size + 1) (ouC 0 0 0 r.i)) := by (repeat first | assumption | exact Ext.refl | apply Ext.alloc | apply Ext.drew | (refine Ext.updN ?_ ?_; (focus first | omega | (simp only [szR] <;> omega))) | (refine Ext.updI ?_ ?_; (focus (simp; done))))
  exact hK _ (hx5.trans hxo (by simp))
end Go.Proofs.YtplfniijbeinmaaGreat
