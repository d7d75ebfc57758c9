/- An instruction that is run: what it tells, and traps; conditions: those of each theorem. -/
import Derived.Test.YtplfniijbeinmaaGreatRun
namespace Go.Proofs.YtplfniijbeinmaaGreat
open Go.Fx
set_option maxRecDepth 100000
set_option linter.unusedSimpArgs false
set_option linter.unusedVariables false
theorem rn_putc (r : Rn) (c : Nat → Cq) : cxC c ++ List.drop (cxC c).length (rnC r) = rnC { r with c := c } := by
  rw [← rn_setc r c]
  unfold splice
  rw [List.take_zero, List.nil_append, Nat.zero_add]
set_option maxHeartbeats 1000000 in
theorem trap_spec {w : World} {q k e va : Nat} {r : Rn} (hr : w.heap[q]? = some (.cells (rnC r).toArray 91 (0, 0))) {K : Value → World → Prop} (hK : ∀ w', Ext [] w w' → K (.tuple #[.agg (cxC r.d).toArray, .agg (ouC k e va r.i).toArray]) w') : callsK Tryz.prog 30 #[.pointer (some ⟨q, 0, none⟩), .int .i64 (k : Nat), .int .i64 (e : Nat), .int .u64 (va : Nat)] w K := by
  apply F30_ok
  unfold F30
  have l0 := lt_of_at hr
  simp (disch := first | assumption | omega | (simp only [szR, cq_len, cq_all, cxC_len, cxC_all, inC_len, inC_all, rnC_len, rnC_all, ouC_len, ouC_all] <;> omega) | rfl | decide) only [gen0, gen1, gen2, rulesC, rulesX, rulesM, litR, bolR, Nat.reduceAdd, Nat.reduceLeDiff, numR, memR, valR, heapR, updR, intR, decR, extR, slR, segR, thenR, pnR, Int.reduceToNat, Int.reduceAdd, Int.reduceSub, Int.reduceLT, Int.reduceLE, Nat.reduceSub, Nat.reduceMul, Nat.reduceEqDiff, zeroX_cells]
  have hx0 : Ext [] w ((w.alloc (.cells (cxC zeroX).toArray 42)).alloc (.cells [.int .i64 0, .int .i64 0, .int .u64 0, .int .i64 0, .int .i64 0, .int .i64 0, .int .i64 0, .int .i64 0].toArray 51)).drew := by (repeat first | assumption | exact Ext.refl | apply Ext.alloc | apply Ext.drew | (refine Ext.updN ?_ ?_; (focus first | omega | (simp only [szR] <;> omega))) | (refine Ext.updI ?_ ?_; (focus (simp; done))))
  have g1 : ((w.alloc (.cells (cxC zeroX).toArray 42)).alloc (.cells [.int .i64 0, .int .i64 0, .int .u64 0, .int .i64 0, .int .i64 0, .int .i64 0, .int .i64 0, .int .i64 0].toArray 51)).drew.heap[w.heap.size]? = some (.cells (cxC zeroX).toArray 42 (0, 0)) := (by first | with_reducible rfl | assumption | (simp (disch := first | assumption | omega | (simp only [szR, cq_len, cq_all, cxC_len, cxC_all, inC_len, inC_all, rnC_len, rnC_all, ouC_len, ouC_all] <;> omega) | rfl | decide) only [gen0, gen1, gen2, rulesC, rulesX, rulesM, litR, bolR, Nat.reduceAdd, Nat.reduceLeDiff, numR, memR, valR, heapR, updR, intR, decR, extR, slR, segR, thenR, pnR, Int.reduceToNat, Int.reduceAdd, Int.reduceSub, Int.reduceLT, Int.reduceLE, Nat.reduceSub, Nat.reduceMul, Nat.reduceEqDiff] <;> rfl))
  have g2 : ((w.alloc (.cells (cxC zeroX).toArray 42)).alloc (.cells [.int .i64 0, .int .i64 0, .int .u64 0, .int .i64 0, .int .i64 0, .int .i64 0, .int .i64 0, .int .i64 0].toArray 51)).drew.heap[w.heap.size + 1]? = some (.cells [.int .i64 0, .int .i64 0, .int .u64 0, .int .i64 0, .int .i64 0, .int .i64 0, .int .i64 0, .int .i64 0].toArray 51 (0, 0)) := (by first | with_reducible rfl | assumption | (simp (disch := first | assumption | omega | (simp only [szR, cq_len, cq_all, cxC_len, cxC_all, inC_len, inC_all, rnC_len, rnC_all, ouC_len, ouC_all] <;> omega) | rfl | decide) only [gen0, gen1, gen2, rulesC, rulesX, rulesM, litR, bolR, Nat.reduceAdd, Nat.reduceLeDiff, numR, memR, valR, heapR, updR, intR, decR, extR, slR, segR, thenR, pnR, Int.reduceToNat, Int.reduceAdd, Int.reduceSub, Int.reduceLT, Int.reduceLE, Nat.reduceSub, Nat.reduceMul, Nat.reduceEqDiff] <;> rfl))
  have g0 := hx0.at hr (by simp)
  obtain ⟨b1, hb1⟩ : ∃ b1, b1 = w.heap.size := ⟨_, rfl⟩
  have hq : q ≠ b1 := by omega
  rw [← hb1] at g1 g2 ⊢
  generalize ((w.alloc (.cells (cxC zeroX).toArray 42)).alloc (.cells [.int .i64 0, .int .i64 0, .int .u64 0, .int .i64 0, .int .i64 0, .int .i64 0, .int .i64 0, .int .i64 0].toArray 51)).drew = w1 at *
  refine relX.one b1 (.cells (cxC r.d).toArray 42 (0, 0)) ?_
  refine postX.is (.pointer (some ⟨q, 0, none⟩)) (fun v w2 hR _ => okX.one) ?_
  refine postX.is (.pointer (some ⟨q, 0, none⟩)) (fun v w2 hR hd => by
    obtain ⟨d1, -⟩ := hd
    simp (disch := first | assumption | omega | (simp only [szR, cq_len, cq_all, cxC_len, cxC_all, inC_len, inC_all, rnC_len, rnC_all, ouC_len, ouC_all] <;> omega) | rfl | decide) only [gen0, gen1, gen2, rulesC, rulesX, rulesM, litR, bolR, Nat.reduceAdd, Nat.reduceLeDiff, numR, memR, valR, heapR, updR, intR, decR, extR, slR, segR, thenR, pnR, Int.reduceToNat, Int.reduceAdd, Int.reduceSub, Int.reduceLT, Int.reduceLE, Nat.reduceSub, Nat.reduceMul, Nat.reduceEqDiff, d1]
    exact okX.one) ?_
  refine postX.is (.pointer (some ⟨q, 99, none⟩)) (fun v w2 hR hd => by
    obtain ⟨d1, -⟩ := hd
    simp (disch := first | assumption | omega | (simp only [szR, cq_len, cq_all, cxC_len, cxC_all, inC_len, inC_all, rnC_len, rnC_all, ouC_len, ouC_all] <;> omega) | rfl | decide) only [gen0, gen1, gen2, rulesC, rulesX, rulesM, litR, bolR, Nat.reduceAdd, Nat.reduceLeDiff, numR, memR, valR, heapR, updR, intR, decR, extR, slR, segR, thenR, pnR, Int.reduceToNat, Int.reduceAdd, Int.reduceSub, Int.reduceLT, Int.reduceLE, Nat.reduceSub, Nat.reduceMul, Nat.reduceEqDiff, d1]
    exact okX.one) ?_
  refine postX.is (.agg (cxC r.d).toArray) (fun v w2 hR hd => by
    obtain ⟨d1, -⟩ := hd
    have e := hR.1.at g0 (by simpa using hq)
    simp (disch := first | assumption | omega | (simp only [szR, cq_len, cq_all, cxC_len, cxC_all, inC_len, inC_all, rnC_len, rnC_all, ouC_len, ouC_all] <;> omega) | rfl | decide) only [gen0, gen1, gen2, rulesC, rulesX, rulesM, litR, bolR, Nat.reduceAdd, Nat.reduceLeDiff, numR, memR, valR, heapR, updR, intR, decR, extR, slR, segR, thenR, pnR, Int.reduceToNat, Int.reduceAdd, Int.reduceSub, Int.reduceLT, Int.reduceLE, Nat.reduceSub, Nat.reduceMul, Nat.reduceEqDiff, d1, e, rn_d]
    exact okX.one) ?_
  refine postX.is (.int .i64 (k : Nat)) (fun v w2 hR _ => okX.one) ?_
  refine postX.is (.int .i64 (e : Nat)) (fun v w2 hR _ => okX.one) ?_
  refine postX.is (.int .u64 (va : Nat)) (fun v w2 hR _ => okX.one) ?_
  refine postX.is (.pointer (some ⟨q, 0, none⟩)) (fun v w2 hR _ => okX.one) ?_
  refine postX.is (.pointer (some ⟨q, 0, none⟩)) (fun v w2 hR hd => by
    obtain ⟨d1, -⟩ := hd
    simp (disch := first | assumption | omega | (simp only [szR, cq_len, cq_all, cxC_len, cxC_all, inC_len, inC_all, rnC_len, rnC_all, ouC_len, ouC_all] <;> omega) | rfl | decide) only [gen0, gen1, gen2, rulesC, rulesX, rulesM, litR, bolR, Nat.reduceAdd, Nat.reduceLeDiff, numR, memR, valR, heapR, updR, intR, decR, extR, slR, segR, thenR, pnR, Int.reduceToNat, Int.reduceAdd, Int.reduceSub, Int.reduceLT, Int.reduceLE, Nat.reduceSub, Nat.reduceMul, Nat.reduceEqDiff, d1]
    exact okX.one) ?_
  refine postX.is (.pointer (some ⟨q, 199, none⟩)) (fun v w2 hR hd => by
    obtain ⟨d1, -⟩ := hd
    simp (disch := first | assumption | omega | (simp only [szR, cq_len, cq_all, cxC_len, cxC_all, inC_len, inC_all, rnC_len, rnC_all, ouC_len, ouC_all] <;> omega) | rfl | decide) only [gen0, gen1, gen2, rulesC, rulesX, rulesM, litR, bolR, Nat.reduceAdd, Nat.reduceLeDiff, numR, memR, valR, heapR, updR, intR, decR, extR, slR, segR, thenR, pnR, Int.reduceToNat, Int.reduceAdd, Int.reduceSub, Int.reduceLT, Int.reduceLE, Nat.reduceSub, Nat.reduceMul, Nat.reduceEqDiff, d1]
    exact okX.one) ?_
  refine postX.is (.agg (inC r.i).toArray) (fun v w2 hR hd => by
    obtain ⟨d1, -⟩ := hd
    have e := hR.1.at g0 (by simpa using hq)
    simp (disch := first | assumption | omega | (simp only [szR, cq_len, cq_all, cxC_len, cxC_all, inC_len, inC_all, rnC_len, rnC_all, ouC_len, ouC_all] <;> omega) | rfl | decide) only [gen0, gen1, gen2, rulesC, rulesX, rulesM, litR, bolR, Nat.reduceAdd, Nat.reduceLeDiff, numR, memR, valR, heapR, updR, intR, decR, extR, slR, segR, thenR, pnR, Int.reduceToNat, Int.reduceAdd, Int.reduceSub, Int.reduceLT, Int.reduceLE, Nat.reduceSub, Nat.reduceMul, Nat.reduceEqDiff, d1, e, rn_i]
    exact okX.one) ?_
  have hb : ∀ (x y z a0 a1 a2 a3 a4 : Int) (w : World), (Instr.build 51 #[(0, .int .i64 x), (1, .int .i64 y), (2, .int .u64 z), (3, .agg [.int .i64 a0, .int .i64 a1, .int .i64 a2, .int .i64 a3, .int .i64 a4].toArray)]).run Tryz.prog w = .ok (.agg [.int .i64 x, .int .i64 y, .int .u64 z, .int .i64 a0, .int .i64 a1, .int .i64 a2, .int .i64 a3, .int .i64 a4].toArray) w := fun x y z a0 a1 a2 a3 a4 w => run_build w 51 _ _ (by kernel_rfl)
  have hb2 : ∀ (w : World), (Instr.build 51 #[(0, .int .i64 (k : Nat)), (1, .int .i64 (e : Nat)), (2, .int .u64 (va : Nat)), (3, .agg (inC r.i).toArray)]).run Tryz.prog w = .ok (.agg (ouC k e va r.i).toArray) w := fun w => hb _ _ _ _ _ _ _ _ w
  refine postX.is (.agg (ouC k e va r.i).toArray) (fun v w2 hR hd => by
    obtain ⟨d1, d2, d3, d4, -⟩ := hd
    simp (disch := first | assumption | omega | (simp only [szR, cq_len, cq_all, cxC_len, cxC_all, inC_len, inC_all, rnC_len, rnC_all, ouC_len, ouC_all] <;> omega) | rfl | decide) only [gen0, gen1, gen2, rulesC, rulesX, rulesM, litR, bolR, Nat.reduceAdd, Nat.reduceLeDiff, numR, memR, valR, heapR, updR, intR, decR, extR, slR, segR, thenR, pnR, Int.reduceToNat, Int.reduceAdd, Int.reduceSub, Int.reduceLT, Int.reduceLE, Nat.reduceSub, Nat.reduceMul, Nat.reduceEqDiff, d1, d2, d3, d4, hb2]
    exact okX.one) ?_
  refine postX.intro (fun _ w => w.heap[b1]? = some (.cells (cxC r.d).toArray 42 (0, 0))) (fun _ w w' hR h => by rcases hR.2 _ h with h | h <;> exact h) (fun v w2 hR hd => by
    obtain ⟨-, -, -, d4, -⟩ := hd
    obtain ⟨d, e⟩ : ∃ d, w2.heap[b1]? = some (.cells (cxC d).toArray 42 (0, 0)) := by
      rcases hR.2 _ g1 with h | h
      · exact ⟨_, h⟩
      · exact ⟨_, h⟩
    simp (disch := first | assumption | omega | (simp only [szR, cq_len, cq_all, cxC_len, cxC_all, inC_len, inC_all, rnC_len, rnC_all, ouC_len, ouC_all] <;> omega) | rfl | decide) only [gen0, gen1, gen2, rulesC, rulesX, rulesM, litR, bolR, Nat.reduceAdd, Nat.reduceLeDiff, numR, memR, valR, heapR, updR, intR, decR, extR, slR, segR, thenR, pnR, Int.reduceToNat, Int.reduceAdd, Int.reduceSub, Int.reduceLT, Int.reduceLE, Nat.reduceSub, Nat.reduceMul, Nat.reduceEqDiff, d4, e, cx_over, cx_put]
    have l := lt_of_at e
    have hxe : Ext [b1] w2 (World.upd w2 b1 (cxC r.d)) := by (repeat first | assumption | exact Ext.refl | apply Ext.alloc | apply Ext.drew | (refine Ext.updN ?_ ?_; (focus first | omega | (simp only [szR] <;> omega))) | (refine Ext.updI ?_ ?_; (focus (simp; done))))
    have hue : (World.upd w2 b1 (cxC r.d)).heap[b1]? = some (.cells (cxC r.d).toArray 42 (0, 0)) := upd_at e
    exact okX.mk ⟨hxe, fun x _ => .inr hue⟩ hue) ?_
  intro v w2 hR hd _
  obtain ⟨-, -, -, -, -, -, -, -, -, -, -, d9, ⟨u, h1⟩, -⟩ := hd
  have h2 := hR.1.at g2 (by simp)
  have l1 := lt_of_at h1
  have l2 := lt_of_at h2
  have hx : Ext [] w w2 := hx0.trans hR.1 (by simp [hb1])
  simp (disch := first | assumption | omega | (simp only [szR, cq_len, cq_all, cxC_len, cxC_all, inC_len, inC_all, rnC_len, rnC_all, ouC_len, ouC_all] <;> omega) | rfl | decide) only [gen0, gen1, gen2, rulesC, rulesX, rulesM, litR, bolR, Nat.reduceAdd, Nat.reduceLeDiff, numR, memR, valR, heapR, updR, intR, decR, extR, slR, segR, thenR, pnR, Int.reduceToNat, Int.reduceAdd, Int.reduceSub, Int.reduceLT, Int.reduceLE, Nat.reduceSub, Nat.reduceMul, Nat.reduceEqDiff, d9, h1, h2, ou_over, ou_put, cx_sub, ou_sub]
  exact hK _ (by (repeat first | assumption | exact Ext.refl | apply Ext.alloc | apply Ext.drew | (refine Ext.updN ?_ ?_; (focus first | omega | (simp only [szR] <;> omega))) | (refine Ext.updI ?_ ?_; (focus (simp; done)))))
theorem tell_spec {w : World} {q : Nat} {r : Rn} {x : Cq} (hr : w.heap[q]? = some (.cells (rnC r).toArray 91 (0, 0))) (hrd : r.i.rd < 9223372036854775808) {K : Value → World → Prop} (hK : ∀ w', Ext [q] w w' → K (.tuple #[.agg (cxC (withX r.c r.i.rd x)).toArray, .agg (ouC 0 0 0 r.i).toArray]) w') : callsK Tryz.prog 74 #[.pointer (some ⟨q, 0, none⟩), .agg (cq x).toArray] w K := by
  apply F74_ok
  unfold F74
  have l0 := lt_of_at hr
  simp (disch := first | assumption | omega | (simp only [szR, cq_len, cq_all, cxC_len, cxC_all, inC_len, inC_all, rnC_len, rnC_all, ouC_len, ouC_all] <;> omega) | rfl | decide) only [gen0, gen1, gen2, rulesC, rulesX, rulesM, litR, bolR, Nat.reduceAdd, Nat.reduceLeDiff, numR, memR, valR, heapR, updR, intR, decR, extR, slR, segR, thenR, pnR, Int.reduceToNat, Int.reduceAdd, Int.reduceSub, Int.reduceLT, Int.reduceLE, Nat.reduceSub, Nat.reduceMul, Nat.reduceEqDiff, zeroX_cells]
  refine joinL.intro fun J hJ => ?_
  simp (disch := first | assumption | omega | (simp only [szR, cq_len, cq_all, cxC_len, cxC_all, inC_len, inC_all, rnC_len, rnC_all, ouC_len, ouC_all] <;> omega) | rfl | decide) only [gen0, gen1, gen2, rulesC, rulesX, rulesM, litR, bolR, Nat.reduceAdd, Nat.reduceLeDiff, numR, memR, valR, heapR, updR, intR, decR, extR, slR, segR, thenR, pnR, Int.reduceToNat, Int.reduceAdd, Int.reduceSub, Int.reduceLT, Int.reduceLE, Nat.reduceSub, Nat.reduceMul, Nat.reduceEqDiff]
  have hx0 : Ext [] w (((w.alloc (.cells (cq x).toArray 24)).alloc (.cells (cxC zeroX).toArray 42)).alloc (.cells [.int .i64 0, .int .i64 0, .int .u64 0, .int .i64 0, .int .i64 0, .int .i64 0, .int .i64 0, .int .i64 0].toArray 51)).drew := by (repeat first | assumption | exact Ext.refl | apply Ext.alloc | apply Ext.drew | (refine Ext.updN ?_ ?_; (focus first | omega | (simp only [szR] <;> omega))) | (refine Ext.updI ?_ ?_; (focus (simp; done))))
  have g3 : (((w.alloc (.cells (cq x).toArray 24)).alloc (.cells (cxC zeroX).toArray 42)).alloc (.cells [.int .i64 0, .int .i64 0, .int .u64 0, .int .i64 0, .int .i64 0, .int .i64 0, .int .i64 0, .int .i64 0].toArray 51)).drew.heap[w.heap.size]? = some (.cells (cq x).toArray 24 (0, 0)) := (by first | with_reducible rfl | assumption | (simp (disch := first | assumption | omega | (simp only [szR, cq_len, cq_all, cxC_len, cxC_all, inC_len, inC_all, rnC_len, rnC_all, ouC_len, ouC_all] <;> omega) | rfl | decide) only [gen0, gen1, gen2, rulesC, rulesX, rulesM, litR, bolR, Nat.reduceAdd, Nat.reduceLeDiff, numR, memR, valR, heapR, updR, intR, decR, extR, slR, segR, thenR, pnR, Int.reduceToNat, Int.reduceAdd, Int.reduceSub, Int.reduceLT, Int.reduceLE, Nat.reduceSub, Nat.reduceMul, Nat.reduceEqDiff] <;> rfl))
  have g1 : (((w.alloc (.cells (cq x).toArray 24)).alloc (.cells (cxC zeroX).toArray 42)).alloc (.cells [.int .i64 0, .int .i64 0, .int .u64 0, .int .i64 0, .int .i64 0, .int .i64 0, .int .i64 0, .int .i64 0].toArray 51)).drew.heap[w.heap.size + 1]? = some (.cells (cxC zeroX).toArray 42 (0, 0)) := (by first | with_reducible rfl | assumption | (simp (disch := first | assumption | omega | (simp only [szR, cq_len, cq_all, cxC_len, cxC_all, inC_len, inC_all, rnC_len, rnC_all, ouC_len, ouC_all] <;> omega) | rfl | decide) only [gen0, gen1, gen2, rulesC, rulesX, rulesM, litR, bolR, Nat.reduceAdd, Nat.reduceLeDiff, numR, memR, valR, heapR, updR, intR, decR, extR, slR, segR, thenR, pnR, Int.reduceToNat, Int.reduceAdd, Int.reduceSub, Int.reduceLT, Int.reduceLE, Nat.reduceSub, Nat.reduceMul, Nat.reduceEqDiff] <;> rfl))
  have g2 : (((w.alloc (.cells (cq x).toArray 24)).alloc (.cells (cxC zeroX).toArray 42)).alloc (.cells [.int .i64 0, .int .i64 0, .int .u64 0, .int .i64 0, .int .i64 0, .int .i64 0, .int .i64 0, .int .i64 0].toArray 51)).drew.heap[w.heap.size + 2]? = some (.cells [.int .i64 0, .int .i64 0, .int .u64 0, .int .i64 0, .int .i64 0, .int .i64 0, .int .i64 0, .int .i64 0].toArray 51 (0, 0)) := (by first | with_reducible rfl | assumption | (simp (disch := first | assumption | omega | (simp only [szR, cq_len, cq_all, cxC_len, cxC_all, inC_len, inC_all, rnC_len, rnC_all, ouC_len, ouC_all] <;> omega) | rfl | decide) only [gen0, gen1, gen2, rulesC, rulesX, rulesM, litR, bolR, Nat.reduceAdd, Nat.reduceLeDiff, numR, memR, valR, heapR, updR, intR, decR, extR, slR, segR, thenR, pnR, Int.reduceToNat, Int.reduceAdd, Int.reduceSub, Int.reduceLT, Int.reduceLE, Nat.reduceSub, Nat.reduceMul, Nat.reduceEqDiff] <;> rfl))
  have g0 := hx0.at hr (by simp)
  obtain ⟨b1, hb1⟩ : ∃ b1, b1 = w.heap.size := ⟨_, rfl⟩
  rw [← hb1] at g1 g2 g3 hJ ⊢
  generalize (((w.alloc (.cells (cq x).toArray 24)).alloc (.cells (cxC zeroX).toArray 42)).alloc (.cells [.int .i64 0, .int .i64 0, .int .u64 0, .int .i64 0, .int .i64 0, .int .i64 0, .int .i64 0, .int .i64 0].toArray 51)).drew = w1 at *
  refine relX.ext [] ?_
  refine postX.is (.pointer (some ⟨q, 0, none⟩)) (fun v w2 hR _ => okX.is) ?_
  refine postX.is (.pointer (some ⟨q, 0, none⟩)) (fun v w2 hR _ => okX.is) ?_
  refine postX.is (.pointer (some ⟨q, 0, none⟩)) (fun v w2 hR hd => by
    obtain ⟨d1, -⟩ := hd
    simp (disch := first | assumption | omega | (simp only [szR, cq_len, cq_all, cxC_len, cxC_all, inC_len, inC_all, rnC_len, rnC_all, ouC_len, ouC_all] <;> omega) | rfl | decide) only [gen0, gen1, gen2, rulesC, rulesX, rulesM, litR, bolR, Nat.reduceAdd, Nat.reduceLeDiff, numR, memR, valR, heapR, updR, intR, decR, extR, slR, segR, thenR, pnR, Int.reduceToNat, Int.reduceAdd, Int.reduceSub, Int.reduceLT, Int.reduceLE, Nat.reduceSub, Nat.reduceMul, Nat.reduceEqDiff, d1]
    exact okX.is) ?_
  refine postX.is (.pointer (some ⟨q, 0, none⟩)) (fun v w2 hR hd => by
    obtain ⟨d1, -⟩ := hd
    simp (disch := first | assumption | omega | (simp only [szR, cq_len, cq_all, cxC_len, cxC_all, inC_len, inC_all, rnC_len, rnC_all, ouC_len, ouC_all] <;> omega) | rfl | decide) only [gen0, gen1, gen2, rulesC, rulesX, rulesM, litR, bolR, Nat.reduceAdd, Nat.reduceLeDiff, numR, memR, valR, heapR, updR, intR, decR, extR, slR, segR, thenR, pnR, Int.reduceToNat, Int.reduceAdd, Int.reduceSub, Int.reduceLT, Int.reduceLE, Nat.reduceSub, Nat.reduceMul, Nat.reduceEqDiff, d1]
    exact okX.is) ?_
  refine postX.is (.agg (cxC r.c).toArray) (fun v w2 hR hd => by
    obtain ⟨d1, -⟩ := hd
    have e := hR.at g0 (by simp)
    simp (disch := first | assumption | omega | (simp only [szR, cq_len, cq_all, cxC_len, cxC_all, inC_len, inC_all, rnC_len, rnC_all, ouC_len, ouC_all] <;> omega) | rfl | decide) only [gen0, gen1, gen2, rulesC, rulesX, rulesM, litR, bolR, Nat.reduceAdd, Nat.reduceLeDiff, numR, memR, valR, heapR, updR, intR, decR, extR, slR, segR, thenR, pnR, Int.reduceToNat, Int.reduceAdd, Int.reduceSub, Int.reduceLT, Int.reduceLE, Nat.reduceSub, Nat.reduceMul, Nat.reduceEqDiff, d1, e, rn_c]
    exact okX.is) ?_
  refine postX.is (.pointer (some ⟨q, 0, none⟩)) (fun v w2 hR _ => okX.is) ?_
  refine postX.is (.pointer (some ⟨q, 0, none⟩)) (fun v w2 hR hd => by
    obtain ⟨d1, -⟩ := hd
    simp (disch := first | assumption | omega | (simp only [szR, cq_len, cq_all, cxC_len, cxC_all, inC_len, inC_all, rnC_len, rnC_all, ouC_len, ouC_all] <;> omega) | rfl | decide) only [gen0, gen1, gen2, rulesC, rulesX, rulesM, litR, bolR, Nat.reduceAdd, Nat.reduceLeDiff, numR, memR, valR, heapR, updR, intR, decR, extR, slR, segR, thenR, pnR, Int.reduceToNat, Int.reduceAdd, Int.reduceSub, Int.reduceLT, Int.reduceLE, Nat.reduceSub, Nat.reduceMul, Nat.reduceEqDiff, d1]
    exact okX.is) ?_
  refine postX.is (.pointer (some ⟨q, 199, none⟩)) (fun v w2 hR hd => by
    obtain ⟨d1, -⟩ := hd
    simp (disch := first | assumption | omega | (simp only [szR, cq_len, cq_all, cxC_len, cxC_all, inC_len, inC_all, rnC_len, rnC_all, ouC_len, ouC_all] <;> omega) | rfl | decide) only [gen0, gen1, gen2, rulesC, rulesX, rulesM, litR, bolR, Nat.reduceAdd, Nat.reduceLeDiff, numR, memR, valR, heapR, updR, intR, decR, extR, slR, segR, thenR, pnR, Int.reduceToNat, Int.reduceAdd, Int.reduceSub, Int.reduceLT, Int.reduceLE, Nat.reduceSub, Nat.reduceMul, Nat.reduceEqDiff, d1]
    exact okX.is) ?_
  refine postX.is (.pointer (some ⟨q, 200, none⟩)) (fun v w2 hR hd => by
    obtain ⟨d1, -⟩ := hd
    simp (disch := first | assumption | omega | (simp only [szR, cq_len, cq_all, cxC_len, cxC_all, inC_len, inC_all, rnC_len, rnC_all, ouC_len, ouC_all] <;> omega) | rfl | decide) only [gen0, gen1, gen2, rulesC, rulesX, rulesM, litR, bolR, Nat.reduceAdd, Nat.reduceLeDiff, numR, memR, valR, heapR, updR, intR, decR, extR, slR, segR, thenR, pnR, Int.reduceToNat, Int.reduceAdd, Int.reduceSub, Int.reduceLT, Int.reduceLE, Nat.reduceSub, Nat.reduceMul, Nat.reduceEqDiff, d1]
    exact okX.is) ?_
  refine postX.is (.int .i64 (r.i.rd : Nat)) (fun v w2 hR hd => by
    obtain ⟨d1, -⟩ := hd
    have e := hR.at g0 (by simp)
    simp (disch := first | assumption | omega | (simp only [szR, cq_len, cq_all, cxC_len, cxC_all, inC_len, inC_all, rnC_len, rnC_all, ouC_len, ouC_all] <;> omega) | rfl | decide) only [gen0, gen1, gen2, rulesC, rulesX, rulesM, litR, bolR, Nat.reduceAdd, Nat.reduceLeDiff, numR, memR, valR, heapR, updR, intR, decR, extR, slR, segR, thenR, pnR, Int.reduceToNat, Int.reduceAdd, Int.reduceSub, Int.reduceLT, Int.reduceLE, Nat.reduceSub, Nat.reduceMul, Nat.reduceEqDiff, d1, e, rn_rd]
    exact okX.is) ?_
  refine postX.is (.agg (cq x).toArray) (fun v w2 hR hd => by
    have e := hR.at g3 (by simp)
    simp (disch := first | assumption | omega | (simp only [szR, cq_len, cq_all, cxC_len, cxC_all, inC_len, inC_all, rnC_len, rnC_all, ouC_len, ouC_all] <;> omega) | rfl | decide) only [gen0, gen1, gen2, rulesC, rulesX, rulesM, litR, bolR, Nat.reduceAdd, Nat.reduceLeDiff, numR, memR, valR, heapR, updR, intR, decR, extR, slR, segR, thenR, pnR, Int.reduceToNat, Int.reduceAdd, Int.reduceSub, Int.reduceLT, Int.reduceLE, Nat.reduceSub, Nat.reduceMul, Nat.reduceEqDiff, e, cq_sub]
    exact okX.is) ?_
  refine postX.is (.agg (cxC (withX r.c r.i.rd x)).toArray) (fun v w2 hR hd => by
    obtain ⟨d1, d2, d3, -⟩ := hd
    simp (disch := first | assumption | omega | (simp only [szR, cq_len, cq_all, cxC_len, cxC_all, inC_len, inC_all, rnC_len, rnC_all, ouC_len, ouC_all] <;> omega) | rfl | decide) only [gen0, gen1, gen2, rulesC, rulesX, rulesM, litR, bolR, Nat.reduceAdd, Nat.reduceLeDiff, numR, memR, valR, heapR, updR, intR, decR, extR, slR, segR, thenR, pnR, Int.reduceToNat, Int.reduceAdd, Int.reduceSub, Int.reduceLT, Int.reduceLE, Nat.reduceSub, Nat.reduceMul, Nat.reduceEqDiff, d1, d2, d3]
    refine With_reg hrd fun w3 hx3 => okX.mk hx3 rfl) ?_
  intro v w2 hR hd _
  obtain ⟨d1, -, -, -, -, -, -, -, -, -, -, d12, -⟩ := hd
  have h0 := hR.at g0 (by simp)
  have h1 := hR.at g1 (by simp)
  have h2 := hR.at g2 (by simp)
  have hxa : Ext [] w w2 := hx0.trans hR (by simp)
  have k0 := lt_of_at h0
  simp (disch := first | assumption | omega | (simp only [szR, cq_len, cq_all, cxC_len, cxC_all, inC_len, inC_all, rnC_len, rnC_all, ouC_len, ouC_all] <;> omega) | rfl | decide) only [gen0, gen1, gen2, rulesC, rulesX, rulesM, litR, bolR, Nat.reduceAdd, Nat.reduceLeDiff, numR, memR, valR, heapR, updR, intR, decR, extR, slR, segR, thenR, pnR, Int.reduceToNat, Int.reduceAdd, Int.reduceSub, Int.reduceLT, Int.reduceLE, Nat.reduceSub, Nat.reduceMul, Nat.reduceEqDiff, d1, d12, h0, rn_setc, rn_putc]
  apply hJ
  intro _
  have m0 : (World.upd w2 q (rnC { r with c := withX r.c r.i.rd x })).heap[q]? = some (.cells (rnC { r with c := withX r.c r.i.rd x }).toArray 91 (0, 0)) := upd_at h0
  have m1 : (World.upd w2 q (rnC { r with c := withX r.c r.i.rd x })).heap[b1 + 1]? = some (.cells (cxC zeroX).toArray 42 (0, 0)) := (upd_ne (by omega)).trans h1
  have m2 : (World.upd w2 q (rnC { r with c := withX r.c r.i.rd x })).heap[b1 + 2]? = some (.cells [.int .i64 0, .int .i64 0, .int .u64 0, .int .i64 0, .int .i64 0, .int .i64 0, .int .i64 0, .int .i64 0].toArray 51 (0, 0)) := (upd_ne (by omega)).trans h2
  have hxb : Ext [q] w (World.upd w2 q (rnC { r with c := withX r.c r.i.rd x })) := by
    have := hxa.mono (T := [q]) (by simp)
    (repeat first | assumption | exact Ext.refl | apply Ext.alloc | apply Ext.drew | (refine Ext.updN ?_ ?_; (focus first | omega | (simp only [szR] <;> omega))) | (refine Ext.updI ?_ ?_; (focus (simp; done))))
  refine retire_spec m0 fun w3 hx3 => ?_
  have n1 := hx3.at m1 (by simp)
  have n2 := hx3.at m2 (by simp)
  have ln1 := lt_of_at n1
  have ln2 := lt_of_at n2
  have hxc := hxb.trans hx3 (by simp)
  have hb1w : w.heap.size ≤ b1 := by omega
  simp (disch := first | assumption | omega | (simp only [szR, cq_len, cq_all, cxC_len, cxC_all, inC_len, inC_all, rnC_len, rnC_all, ouC_len, ouC_all] <;> omega) | rfl | decide) only [gen0, gen1, gen2, rulesC, rulesX, rulesM, litR, bolR, Nat.reduceAdd, Nat.reduceLeDiff, numR, memR, valR, heapR, updR, intR, decR, extR, slR, segR, thenR, pnR, Int.reduceToNat, Int.reduceAdd, Int.reduceSub, Int.reduceLT, Int.reduceLE, Nat.reduceSub, Nat.reduceMul, Nat.reduceEqDiff, n1, n2, cx_over, cx_put, ou_over, ou_put, cx_sub, ou_sub]
  exact hK _ (by (repeat first | assumption | exact Ext.refl | apply Ext.alloc | apply Ext.drew | (refine Ext.updN ?_ ?_; (focus first | omega | (simp only [szR] <;> omega))) | (refine Ext.updI ?_ ?_; (focus (simp; done)))))
theorem num_spec {w : World} {q n : Nat} {r : Rn} (hr : w.heap[q]? = some (.cells (rnC r).toArray 91 (0, 0))) (hrd : r.i.rd < 9223372036854775808) {K : Value → World → Prop} (hK : ∀ w', Ext [q] w w' → K (.tuple #[.agg (cxC (withX r.c r.i.rd ⟨false, 0, n⟩)).toArray, .agg (ouC 0 0 0 r.i).toArray]) w') : callsK Tryz.prog 77 #[.pointer (some ⟨q, 0, none⟩), .int .u64 (n : Nat)] w K := by
  apply F77_ok
  unfold F77
  have l0 := lt_of_at hr
  simp (disch := first | assumption | omega | (simp only [szR, cq_len, cq_all, cxC_len, cxC_all, inC_len, inC_all, rnC_len, rnC_all, ouC_len, ouC_all] <;> omega) | rfl | decide) only [gen0, gen1, gen2, rulesC, rulesX, rulesM, litR, bolR, Nat.reduceAdd, Nat.reduceLeDiff, numR, memR, valR, heapR, updR, intR, decR, extR, slR, segR, thenR, pnR, Int.reduceToNat, Int.reduceAdd, Int.reduceSub, Int.reduceLT, Int.reduceLE, Nat.reduceSub, Nat.reduceMul, Nat.reduceEqDiff, zeroX_cells]
  have hx0 : Ext [] w ((w.alloc (.cells (cxC zeroX).toArray 42)).alloc (.cells [.int .i64 0, .int .i64 0, .int .u64 0, .int .i64 0, .int .i64 0, .int .i64 0, .int .i64 0, .int .i64 0].toArray 51)) := by (repeat first | assumption | exact Ext.refl | apply Ext.alloc | apply Ext.drew | (refine Ext.updN ?_ ?_; (focus first | omega | (simp only [szR] <;> omega))) | (refine Ext.updI ?_ ?_; (focus (simp; done))))
  have g1 : ((w.alloc (.cells (cxC zeroX).toArray 42)).alloc (.cells [.int .i64 0, .int .i64 0, .int .u64 0, .int .i64 0, .int .i64 0, .int .i64 0, .int .i64 0, .int .i64 0].toArray 51)).heap[w.heap.size]? = some (.cells (cxC zeroX).toArray 42 (0, 0)) := (by first | with_reducible rfl | assumption | (simp (disch := first | assumption | omega | (simp only [szR, cq_len, cq_all, cxC_len, cxC_all, inC_len, inC_all, rnC_len, rnC_all, ouC_len, ouC_all] <;> omega) | rfl | decide) only [gen0, gen1, gen2, rulesC, rulesX, rulesM, litR, bolR, Nat.reduceAdd, Nat.reduceLeDiff, numR, memR, valR, heapR, updR, intR, decR, extR, slR, segR, thenR, pnR, Int.reduceToNat, Int.reduceAdd, Int.reduceSub, Int.reduceLT, Int.reduceLE, Nat.reduceSub, Nat.reduceMul, Nat.reduceEqDiff] <;> rfl))
  have g2 : ((w.alloc (.cells (cxC zeroX).toArray 42)).alloc (.cells [.int .i64 0, .int .i64 0, .int .u64 0, .int .i64 0, .int .i64 0, .int .i64 0, .int .i64 0, .int .i64 0].toArray 51)).heap[w.heap.size + 1]? = some (.cells [.int .i64 0, .int .i64 0, .int .u64 0, .int .i64 0, .int .i64 0, .int .i64 0, .int .i64 0, .int .i64 0].toArray 51 (0, 0)) := (by first | with_reducible rfl | assumption | (simp (disch := first | assumption | omega | (simp only [szR, cq_len, cq_all, cxC_len, cxC_all, inC_len, inC_all, rnC_len, rnC_all, ouC_len, ouC_all] <;> omega) | rfl | decide) only [gen0, gen1, gen2, rulesC, rulesX, rulesM, litR, bolR, Nat.reduceAdd, Nat.reduceLeDiff, numR, memR, valR, heapR, updR, intR, decR, extR, slR, segR, thenR, pnR, Int.reduceToNat, Int.reduceAdd, Int.reduceSub, Int.reduceLT, Int.reduceLE, Nat.reduceSub, Nat.reduceMul, Nat.reduceEqDiff] <;> rfl))
  have g0 := hx0.at hr (by simp)
  refine Null_spec fun w1 hx1 => ?_
  have hxa := hx0.trans hx1 (by simp)
  have k0 := hx1.at g0 (by simp)
  have k1 := hx1.at g1 (by simp)
  have k2 := hx1.at g2 (by simp)
  simp (disch := first | assumption | omega | (simp only [szR, cq_len, cq_all, cxC_len, cxC_all, inC_len, inC_all, rnC_len, rnC_all, ouC_len, ouC_all] <;> omega) | rfl | decide) only [gen0, gen1, gen2, rulesC, rulesX, rulesM, litR, bolR, Nat.reduceAdd, Nat.reduceLeDiff, numR, memR, valR, heapR, updR, intR, decR, extR, slR, segR, thenR, pnR, Int.reduceToNat, Int.reduceAdd, Int.reduceSub, Int.reduceLT, Int.reduceLE, Nat.reduceSub, Nat.reduceMul, Nat.reduceEqDiff]
  refine tell_spec (x := ⟨false, 0, n⟩) k0 hrd fun w2 hx2 => ?_
  have n1 := hx2.at k1 (by simp; omega)
  have n2 := hx2.at k2 (by simp; omega)
  have ln1 := lt_of_at n1
  have ln2 := lt_of_at n2
  have hxc : Ext [q] w w2 := (hxa.mono (by simp)).step hx2
  simp (disch := first | assumption | omega | (simp only [szR, cq_len, cq_all, cxC_len, cxC_all, inC_len, inC_all, rnC_len, rnC_all, ouC_len, ouC_all] <;> omega) | rfl | decide) only [gen0, gen1, gen2, rulesC, rulesX, rulesM, litR, bolR, Nat.reduceAdd, Nat.reduceLeDiff, numR, memR, valR, heapR, updR, intR, decR, extR, slR, segR, thenR, pnR, Int.reduceToNat, Int.reduceAdd, Int.reduceSub, Int.reduceLT, Int.reduceLE, Nat.reduceSub, Nat.reduceMul, Nat.reduceEqDiff, n1, n2, cx_over, cx_put, ou_over, ou_put, cx_sub, ou_sub]
  exact hK _ (by (repeat first | assumption | exact Ext.refl | apply Ext.alloc | apply Ext.drew | (refine Ext.updN ?_ ?_; (focus first | omega | (simp only [szR] <;> omega))) | (refine Ext.updI ?_ ?_; (focus (simp; done)))))
def kdW (b : Bool) : Nat := if b = true then 4 else 2
theorem kdW_lt (b : Bool) : kdW b < 5 := by cases b <;> decide
end Go.Proofs.YtplfniijbeinmaaGreat
