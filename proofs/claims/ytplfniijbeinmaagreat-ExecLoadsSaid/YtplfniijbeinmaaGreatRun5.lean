/- An instruction that loads a capability; conditions: those of each theorem. -/
import Derived.Test.YtplfniijbeinmaaGreatRun4
namespace Go.Proofs.YtplfniijbeinmaaGreat
open Go.Fx
set_option maxRecDepth 100000
set_option linter.unusedSimpArgs false
set_option linter.unusedVariables false
theorem withX_idem (c : Nat → Cq) (n : Nat) (x : Cq) : withX (withX c n x) n x = withX c n x := by
  unfold withX
  split
  · funext j
    unfold setX
    split <;> rfl
  · rfl
theorem cq_zero : [.bool false, .int .u64 0, .int .u64 0] = cq Cq.zero := rfl
theorem cq_put2 (d u : Cq) : cq d ++ List.drop (cq d).length (cq u) = cq d := by simp [cq, cpC]
set_option maxHeartbeats 1000000 in
theorem memR_trap {w : World} {q rb pb n x : Nat} {r : Rn} {m g : Nat → Int} (hr : w.heap[q]? = some (.cells (rnC r).toArray 91 (0, 0))) (ho : r.i.op = 43) (hm : r.m = flV rb) (hM : Mem w rb pb n m g) (hn : 0 < n ∧ n ≤ 1000) (hx : r.a.a + r.i.im = x) (hx64 : x + 16 < 18446744073709551616) (him : r.i.im < 9223372036854775808) (ham : r.a.m < 18446744073709551616) (hsB : spB (spM r.a.m x) < 18446744073709551616) (hsT : spT (spM r.a.m x) < 18446744073709551616) (hchk : chkN (moveT r.a.t r.a.m r.a.a x) r.a.m x 1 16 ≠ 0) {K : Value → World → Prop}
    (hK : ∀ w', Ext [] w w' → K (.tuple #[.agg (cxC r.d).toArray, .agg (ouC 5 (chkN (moveT r.a.t r.a.m r.a.a x) r.a.m x 1 16) x r.i).toArray]) w') : callsK Tryz.prog 73 #[.pointer (some ⟨q, 0, none⟩), .int .i64 16] w K := by
  apply F73_ok
  unfold F73
  have l0 := lt_of_at hr
  simp (disch := first | assumption | omega | (simp only [szR, cq_len, cq_all, cxC_len, cxC_all, inC_len, inC_all, rnC_len, rnC_all, ouC_len, ouC_all, vwC_len, vwC_all] <;> omega) | rfl | decide) only [gen0, gen1, gen2, rulesC, rulesX, rulesM, litR, bolR, Nat.reduceAdd, Nat.reduceLeDiff, numR, memR, valR, heapR, updR, intR, decR, extR, slR, segR, thenR, pnR, Int.reduceToNat, Int.reduceAdd, Int.reduceSub, Int.reduceLT, Int.reduceLE, Nat.reduceSub, Nat.reduceMul, Nat.reduceEqDiff, zeroX_cells]
  refine joinL.intro fun J0 hJ0 => ?_
  simp (disch := first | assumption | omega | (simp only [szR, cq_len, cq_all, cxC_len, cxC_all, inC_len, inC_all, rnC_len, rnC_all, ouC_len, ouC_all, vwC_len, vwC_all] <;> omega) | rfl | decide) only [gen0, gen1, gen2, rulesC, rulesX, rulesM, litR, bolR, Nat.reduceAdd, Nat.reduceLeDiff, numR, memR, valR, heapR, updR, intR, decR, extR, slR, segR, thenR, pnR, Int.reduceToNat, Int.reduceAdd, Int.reduceSub, Int.reduceLT, Int.reduceLE, Nat.reduceSub, Nat.reduceMul, Nat.reduceEqDiff]
  have hx0 : Ext [] w ((w.alloc (.cells (cxC zeroX).toArray 42)).alloc (.cells [.int .i64 0, .int .i64 0, .int .u64 0, .int .i64 0, .int .i64 0, .int .i64 0, .int .i64 0, .int .i64 0].toArray 51)).drew := by (repeat first | assumption | exact Ext.refl | apply Ext.alloc | apply Ext.drew | (refine Ext.updN ?_ ?_; (focus first | omega | (simp only [szR] <;> omega))) | (refine Ext.updI ?_ ?_; (focus (simp; done))))
  have g1 : ((w.alloc (.cells (cxC zeroX).toArray 42)).alloc (.cells [.int .i64 0, .int .i64 0, .int .u64 0, .int .i64 0, .int .i64 0, .int .i64 0, .int .i64 0, .int .i64 0].toArray 51)).drew.heap[w.heap.size]? = some (.cells (cxC zeroX).toArray 42 (0, 0)) := (by first | with_reducible rfl | assumption | (simp (disch := first | assumption | omega | (simp only [szR, cq_len, cq_all, cxC_len, cxC_all, inC_len, inC_all, rnC_len, rnC_all, ouC_len, ouC_all, vwC_len, vwC_all] <;> omega) | rfl | decide) only [gen0, gen1, gen2, rulesC, rulesX, rulesM, litR, bolR, Nat.reduceAdd, Nat.reduceLeDiff, numR, memR, valR, heapR, updR, intR, decR, extR, slR, segR, thenR, pnR, Int.reduceToNat, Int.reduceAdd, Int.reduceSub, Int.reduceLT, Int.reduceLE, Nat.reduceSub, Nat.reduceMul, Nat.reduceEqDiff] <;> rfl))
  have g2 : ((w.alloc (.cells (cxC zeroX).toArray 42)).alloc (.cells [.int .i64 0, .int .i64 0, .int .u64 0, .int .i64 0, .int .i64 0, .int .i64 0, .int .i64 0, .int .i64 0].toArray 51)).drew.heap[w.heap.size + 1]? = some (.cells [.int .i64 0, .int .i64 0, .int .u64 0, .int .i64 0, .int .i64 0, .int .i64 0, .int .i64 0, .int .i64 0].toArray 51 (0, 0)) := (by first | with_reducible rfl | assumption | (simp (disch := first | assumption | omega | (simp only [szR, cq_len, cq_all, cxC_len, cxC_all, inC_len, inC_all, rnC_len, rnC_all, ouC_len, ouC_all, vwC_len, vwC_all] <;> omega) | rfl | decide) only [gen0, gen1, gen2, rulesC, rulesX, rulesM, litR, bolR, Nat.reduceAdd, Nat.reduceLeDiff, numR, memR, valR, heapR, updR, intR, decR, extR, slR, segR, thenR, pnR, Int.reduceToNat, Int.reduceAdd, Int.reduceSub, Int.reduceLT, Int.reduceLE, Nat.reduceSub, Nat.reduceMul, Nat.reduceEqDiff] <;> rfl))
  have g0 := hx0.at hr (by simp)
  have hM1 := hM.ext hx0 (by simp) (by simp)
  obtain ⟨b1, hb1⟩ : ∃ b1, b1 = w.heap.size := ⟨_, rfl⟩
  have hq : q < b1 := by omega
  rw [← hb1] at g1 g2 hJ0
  generalize ((w.alloc (.cells (cxC zeroX).toArray 42)).alloc (.cells [.int .i64 0, .int .i64 0, .int .u64 0, .int .i64 0, .int .i64 0, .int .i64 0, .int .i64 0, .int .i64 0].toArray 51)).drew = w1 at *
  obtain ⟨p, hp⟩ : ∃ p : Cq, p = ⟨moveT r.a.t r.a.m r.a.a x, r.a.m, x⟩ := ⟨_, rfl⟩
  have hpt : p.t = moveT r.a.t r.a.m r.a.a x := by rw [hp]
  have hpm : p.m = r.a.m := by rw [hp]
  have hpa : p.a = x := by rw [hp]
  have hw : IntKind.u64.wrap ((r.a.a : Int) + (r.i.im : Nat)) = (x : Nat) := by
    rw [wrapMod]
    omega
  refine relX.ext [] ?_
  refine postX.is (.pointer (some ⟨q, 0, none⟩)) (fun v w2 hR _ => okX.is) ?_
  refine postX.is (.pointer (some ⟨q, 0, none⟩)) (fun v w2 hR hd => by
    obtain ⟨d1, -⟩ := hd
    simp (disch := first | assumption | omega | (simp only [szR, cq_len, cq_all, cxC_len, cxC_all, inC_len, inC_all, rnC_len, rnC_all, ouC_len, ouC_all, vwC_len, vwC_all] <;> omega) | rfl | decide) only [gen0, gen1, gen2, rulesC, rulesX, rulesM, litR, bolR, Nat.reduceAdd, Nat.reduceLeDiff, numR, memR, valR, heapR, updR, intR, decR, extR, slR, segR, thenR, pnR, Int.reduceToNat, Int.reduceAdd, Int.reduceSub, Int.reduceLT, Int.reduceLE, Nat.reduceSub, Nat.reduceMul, Nat.reduceEqDiff, d1]
    exact okX.is) ?_
  refine postX.is (.pointer (some ⟨q, 204, none⟩)) (fun v w2 hR hd => by
    obtain ⟨d1, -⟩ := hd
    simp (disch := first | assumption | omega | (simp only [szR, cq_len, cq_all, cxC_len, cxC_all, inC_len, inC_all, rnC_len, rnC_all, ouC_len, ouC_all, vwC_len, vwC_all] <;> omega) | rfl | decide) only [gen0, gen1, gen2, rulesC, rulesX, rulesM, litR, bolR, Nat.reduceAdd, Nat.reduceLeDiff, numR, memR, valR, heapR, updR, intR, decR, extR, slR, segR, thenR, pnR, Int.reduceToNat, Int.reduceAdd, Int.reduceSub, Int.reduceLT, Int.reduceLE, Nat.reduceSub, Nat.reduceMul, Nat.reduceEqDiff, d1]
    exact okX.is) ?_
  refine postX.is (.agg (cq r.a).toArray) (fun v w2 hR hd => by
    obtain ⟨d1, -⟩ := hd
    have e := hR.at g0 (by simp)
    simp (disch := first | assumption | omega | (simp only [szR, cq_len, cq_all, cxC_len, cxC_all, inC_len, inC_all, rnC_len, rnC_all, ouC_len, ouC_all, vwC_len, vwC_all] <;> omega) | rfl | decide) only [gen0, gen1, gen2, rulesC, rulesX, rulesM, litR, bolR, Nat.reduceAdd, Nat.reduceLeDiff, numR, memR, valR, heapR, updR, intR, decR, extR, slR, segR, thenR, pnR, Int.reduceToNat, Int.reduceAdd, Int.reduceSub, Int.reduceLT, Int.reduceLE, Nat.reduceSub, Nat.reduceMul, Nat.reduceEqDiff, d1, e, rn_a]
    exact okX.is) ?_
  refine postX.is (.pointer (some ⟨q, 0, none⟩)) (fun v w2 hR _ => okX.is) ?_
  refine postX.is (.pointer (some ⟨q, 0, none⟩)) (fun v w2 hR hd => by
    obtain ⟨d1, -⟩ := hd
    simp (disch := first | assumption | omega | (simp only [szR, cq_len, cq_all, cxC_len, cxC_all, inC_len, inC_all, rnC_len, rnC_all, ouC_len, ouC_all, vwC_len, vwC_all] <;> omega) | rfl | decide) only [gen0, gen1, gen2, rulesC, rulesX, rulesM, litR, bolR, Nat.reduceAdd, Nat.reduceLeDiff, numR, memR, valR, heapR, updR, intR, decR, extR, slR, segR, thenR, pnR, Int.reduceToNat, Int.reduceAdd, Int.reduceSub, Int.reduceLT, Int.reduceLE, Nat.reduceSub, Nat.reduceMul, Nat.reduceEqDiff, d1]
    exact okX.is) ?_
  refine postX.is (.pointer (some ⟨q, 199, none⟩)) (fun v w2 hR hd => by
    obtain ⟨d1, -⟩ := hd
    simp (disch := first | assumption | omega | (simp only [szR, cq_len, cq_all, cxC_len, cxC_all, inC_len, inC_all, rnC_len, rnC_all, ouC_len, ouC_all, vwC_len, vwC_all] <;> omega) | rfl | decide) only [gen0, gen1, gen2, rulesC, rulesX, rulesM, litR, bolR, Nat.reduceAdd, Nat.reduceLeDiff, numR, memR, valR, heapR, updR, intR, decR, extR, slR, segR, thenR, pnR, Int.reduceToNat, Int.reduceAdd, Int.reduceSub, Int.reduceLT, Int.reduceLE, Nat.reduceSub, Nat.reduceMul, Nat.reduceEqDiff, d1]
    exact okX.is) ?_
  refine postX.is (.pointer (some ⟨q, 203, none⟩)) (fun v w2 hR hd => by
    obtain ⟨d1, -⟩ := hd
    simp (disch := first | assumption | omega | (simp only [szR, cq_len, cq_all, cxC_len, cxC_all, inC_len, inC_all, rnC_len, rnC_all, ouC_len, ouC_all, vwC_len, vwC_all] <;> omega) | rfl | decide) only [gen0, gen1, gen2, rulesC, rulesX, rulesM, litR, bolR, Nat.reduceAdd, Nat.reduceLeDiff, numR, memR, valR, heapR, updR, intR, decR, extR, slR, segR, thenR, pnR, Int.reduceToNat, Int.reduceAdd, Int.reduceSub, Int.reduceLT, Int.reduceLE, Nat.reduceSub, Nat.reduceMul, Nat.reduceEqDiff, d1]
    exact okX.is) ?_
  refine postX.is (.int .i64 (r.i.im : Nat)) (fun v w2 hR hd => by
    obtain ⟨d1, -⟩ := hd
    have e := hR.at g0 (by simp)
    simp (disch := first | assumption | omega | (simp only [szR, cq_len, cq_all, cxC_len, cxC_all, inC_len, inC_all, rnC_len, rnC_all, ouC_len, ouC_all, vwC_len, vwC_all] <;> omega) | rfl | decide) only [gen0, gen1, gen2, rulesC, rulesX, rulesM, litR, bolR, Nat.reduceAdd, Nat.reduceLeDiff, numR, memR, valR, heapR, updR, intR, decR, extR, slR, segR, thenR, pnR, Int.reduceToNat, Int.reduceAdd, Int.reduceSub, Int.reduceLT, Int.reduceLE, Nat.reduceSub, Nat.reduceMul, Nat.reduceEqDiff, d1, e, rn_im]
    exact okX.is) ?_
  refine postX.is (.int .u64 (r.i.im : Nat)) (fun v w2 hR hd => by
    obtain ⟨d1, -⟩ := hd
    simp (disch := first | assumption | omega | (simp only [szR, cq_len, cq_all, cxC_len, cxC_all, inC_len, inC_all, rnC_len, rnC_all, ouC_len, ouC_all, vwC_len, vwC_all] <;> omega) | rfl | decide) only [gen0, gen1, gen2, rulesC, rulesX, rulesM, litR, bolR, Nat.reduceAdd, Nat.reduceLeDiff, numR, memR, valR, heapR, updR, intR, decR, extR, slR, segR, thenR, pnR, Int.reduceToNat, Int.reduceAdd, Int.reduceSub, Int.reduceLT, Int.reduceLE, Nat.reduceSub, Nat.reduceMul, Nat.reduceEqDiff, d1]
    exact okX.is) ?_
  refine postX.is (.agg (cq p).toArray) (fun v w2 hR hd => by
    obtain ⟨d1, d2, -⟩ := hd
    simp (disch := first | assumption | omega | (simp only [szR, cq_len, cq_all, cxC_len, cxC_all, inC_len, inC_all, rnC_len, rnC_all, ouC_len, ouC_all, vwC_len, vwC_all] <;> omega) | rfl | decide) only [gen0, gen1, gen2, rulesC, rulesX, rulesM, litR, bolR, Nat.reduceAdd, Nat.reduceLeDiff, numR, memR, valR, heapR, updR, intR, decR, extR, slR, segR, thenR, pnR, Int.reduceToNat, Int.reduceAdd, Int.reduceSub, Int.reduceLT, Int.reduceLE, Nat.reduceSub, Nat.reduceMul, Nat.reduceEqDiff, d1, d2]
    refine Move_spec (t := r.a.t) (m := r.a.m) (a := r.a.a) (b := x) ham (by omega) (by omega) hw fun w3 hx3 => okX.mk hx3 (by rw [hp]; rfl)) ?_
  refine postX.intro (fun v w => ∃ b, v = .pointer (some ⟨b, 0, none⟩) ∧ w1.heap.size ≤ b ∧ w.heap[b]? = some (.cells [.bool false, .int .u64 0, .int .u64 0].toArray 24 (0, 0))) (fun _ w w' hR h => by
    obtain ⟨b, h1, h2, h3⟩ := h
    exact ⟨b, h1, h2, hR.at h3 (by simp)⟩) (fun v w2 hR _ => by
    simp (disch := first | assumption | omega | (simp only [szR, cq_len, cq_all, cxC_len, cxC_all, inC_len, inC_all, rnC_len, rnC_all, ouC_len, ouC_all, vwC_len, vwC_all] <;> omega) | rfl | decide) only [gen0, gen1, gen2, rulesC, rulesX, rulesM, litR, bolR, Nat.reduceAdd, Nat.reduceLeDiff, numR, memR, valR, heapR, updR, intR, decR, extR, slR, segR, thenR, pnR, Int.reduceToNat, Int.reduceAdd, Int.reduceSub, Int.reduceLT, Int.reduceLE, Nat.reduceSub, Nat.reduceMul, Nat.reduceEqDiff]
    refine okX.mk (by (repeat first | assumption | exact Ext.refl | apply Ext.alloc | apply Ext.drew | (refine Ext.updN ?_ ?_; (focus first | omega | (simp only [szR] <;> omega))) | (refine Ext.updI ?_ ?_; (focus (simp; done))))) ⟨w2.heap.size, rfl, hR.size, (by first | with_reducible rfl | assumption | (simp (disch := first | assumption | omega | (simp only [szR, cq_len, cq_all, cxC_len, cxC_all, inC_len, inC_all, rnC_len, rnC_all, ouC_len, ouC_all, vwC_len, vwC_all] <;> omega) | rfl | decide) only [gen0, gen1, gen2, rulesC, rulesX, rulesM, litR, bolR, Nat.reduceAdd, Nat.reduceLeDiff, numR, memR, valR, heapR, updR, intR, decR, extR, slR, segR, thenR, pnR, Int.reduceToNat, Int.reduceAdd, Int.reduceSub, Int.reduceLT, Int.reduceLE, Nat.reduceSub, Nat.reduceMul, Nat.reduceEqDiff] <;> rfl))⟩) ?_
  intro v w2 hR hd _
  obtain ⟨-, -, -, -, -, -, -, -, -, -, d25, ⟨b6, d6, hb6, h6⟩, -⟩ := hd
  have h0 := hR.at g0 (by simp)
  have h1 := hR.at g1 (by simp)
  have h2 := hR.at g2 (by simp)
  have hM2 := hM1.ext hR (by simp) (by simp)
  rw [d25, d6]
  have lg0 := lt_of_at g0
  have lg1 := lt_of_at g1
  have lg2 := lt_of_at g2
  have lM := hM1.lt
  have l6 := lt_of_at h6
  simp (disch := first | assumption | omega | (simp only [szR, cq_len, cq_all, cxC_len, cxC_all, inC_len, inC_all, rnC_len, rnC_all, ouC_len, ouC_all, vwC_len, vwC_all] <;> omega) | rfl | decide) only [gen0, gen1, gen2, rulesC, rulesX, rulesM, litR, bolR, Nat.reduceAdd, Nat.reduceLeDiff, numR, memR, valR, heapR, updR, intR, decR, extR, slR, segR, thenR, pnR, Int.reduceToNat, Int.reduceAdd, Int.reduceSub, Int.reduceLT, Int.reduceLE, Nat.reduceSub, Nat.reduceMul, Nat.reduceEqDiff, h6, cq_over0, cq_put]
  apply hJ0
  intro _
  have c2 : (cq p)[2]? = some (.int .u64 (p.a : Nat)) := rfl
  have hxe : Ext [b6] w2 (World.upd w2 b6 (cq p)).drew := by (repeat first | assumption | exact Ext.refl | apply Ext.alloc | apply Ext.drew | (refine Ext.updN ?_ ?_; (focus first | omega | (simp only [szR] <;> omega))) | (refine Ext.updI ?_ ?_; (focus (simp; done))))
  have m0 : (World.upd w2 b6 (cq p)).drew.heap[q]? = some (.cells (rnC r).toArray 91 (0, 0)) := (upd_ne (by omega)).trans h0
  have m1 : (World.upd w2 b6 (cq p)).drew.heap[b1]? = some (.cells (cxC zeroX).toArray 42 (0, 0)) := (upd_ne (by omega)).trans h1
  have m2 : (World.upd w2 b6 (cq p)).drew.heap[b1 + 1]? = some (.cells [.int .i64 0, .int .i64 0, .int .u64 0, .int .i64 0, .int .i64 0, .int .i64 0, .int .i64 0, .int .i64 0].toArray 51 (0, 0)) := (upd_ne (by omega)).trans h2
  have m6 : (World.upd w2 b6 (cq p)).drew.heap[b6]? = some (.cells (cq p).toArray 24 (0, 0)) := upd_at h6
  have hM3 : Mem (World.upd w2 b6 (cq p)).drew rb pb n m g := hM2.ext hxe (by simp; omega) (by simp; omega)
  have hs01 := hx0.size
  have hxa : Ext [] w (World.upd w2 b6 (cq p)).drew := (hx0.trans hR (by simp)).trans hxe (by simp; omega)
  simp (disch := first | assumption | omega | (simp only [szR, cq_len, cq_all, cxC_len, cxC_all, inC_len, inC_all, rnC_len, rnC_all, ouC_len, ouC_all, vwC_len, vwC_all] <;> omega) | rfl | decide) only [gen0, gen1, gen2, rulesC, rulesX, rulesM, litR, bolR, Nat.reduceAdd, Nat.reduceLeDiff, numR, memR, valR, heapR, updR, intR, decR, extR, slR, segR, thenR, pnR, Int.reduceToNat, Int.reduceAdd, Int.reduceSub, Int.reduceLT, Int.reduceLE, Nat.reduceSub, Nat.reduceMul, Nat.reduceEqDiff, h6, cq_sub]
  refine kindR_still m0 ho ?_
  simp (disch := first | assumption | omega | (simp only [szR, cq_len, cq_all, cxC_len, cxC_all, inC_len, inC_all, rnC_len, rnC_all, ouC_len, ouC_all, vwC_len, vwC_all] <;> omega) | rfl | decide) only [gen0, gen1, gen2, rulesC, rulesX, rulesM, litR, bolR, Nat.reduceAdd, Nat.reduceLeDiff, numR, memR, valR, heapR, updR, intR, decR, extR, slR, segR, thenR, pnR, Int.reduceToNat, Int.reduceAdd, Int.reduceSub, Int.reduceLT, Int.reduceLE, Nat.reduceSub, Nat.reduceMul, Nat.reduceEqDiff]
  refine Check_spec (t := p.t) (m := p.m) (a := p.a) (k := 1) (n := 16) (by rw [hpm]; exact ham) (by omega) (by decide) (Nat.le_refl _) (by omega) (by rw [hpm, hpa]; exact hsB) (by rw [hpm, hpa]; exact hsT) fun w4 hx4 => ?_
  have n0 := hx4.at m0 (by simp)
  have n1 := hx4.at m1 (by simp)
  have n2 := hx4.at m2 (by simp)
  have n6 := hx4.at m6 (by simp)
  have hM4 := hM3.ext hx4 (by simp) (by simp)
  have hxb := hxa.trans hx4 (by simp)
  have ln1 := lt_of_at n1
  have ln2 := lt_of_at n2
  have ln6 := lt_of_at n6
  rw [← hpt, ← hpm, ← hpa] at hchk hK
  have hck : ((chkN p.t p.m p.a 1 16 : Nat) : Int) ≠ 0 := by omega
  simp (disch := first | assumption | omega | (simp only [szR, cq_len, cq_all, cxC_len, cxC_all, inC_len, inC_all, rnC_len, rnC_all, ouC_len, ouC_all, vwC_len, vwC_all] <;> omega) | rfl | decide) only [gen0, gen1, gen2, rulesC, rulesX, rulesM, litR, bolR, Nat.reduceAdd, Nat.reduceLeDiff, numR, memR, valR, heapR, updR, intR, decR, extR, slR, segR, thenR, pnR, Int.reduceToNat, Int.reduceAdd, Int.reduceSub, Int.reduceLT, Int.reduceLE, Nat.reduceSub, Nat.reduceMul, Nat.reduceEqDiff, n6, c2, hck]
  refine trap_spec (k := 5) (e := chkN p.t p.m p.a 1 16) (va := p.a) n0 fun w5 hx5 => ?_
  have o1 := hx5.at n1 (by simp)
  have o2 := hx5.at n2 (by simp)
  have lo1 := lt_of_at o1
  have lo2 := lt_of_at o2
  have hxc := hxb.trans hx5 (by simp)
  simp (disch := first | assumption | omega | (simp only [szR, cq_len, cq_all, cxC_len, cxC_all, inC_len, inC_all, rnC_len, rnC_all, ouC_len, ouC_all, vwC_len, vwC_all] <;> omega) | rfl | decide) only [gen0, gen1, gen2, rulesC, rulesX, rulesM, litR, bolR, Nat.reduceAdd, Nat.reduceLeDiff, numR, memR, valR, heapR, updR, intR, decR, extR, slR, segR, thenR, pnR, Int.reduceToNat, Int.reduceAdd, Int.reduceSub, Int.reduceLT, Int.reduceLE, Nat.reduceSub, Nat.reduceMul, Nat.reduceEqDiff, o1, o2, cx_over, cx_put, ou_over, ou_put, cx_sub, ou_sub]
  exact hK _ (by (repeat first | assumption | exact Ext.refl | apply Ext.alloc | apply Ext.drew | (refine Ext.updN ?_ ?_; (focus first | omega | (simp only [szR] <;> omega))) | (refine Ext.updI ?_ ?_; (focus (simp; done)))))
set_option maxHeartbeats 2000000 in
theorem memR_spec {w : World} {q rb pb n x : Nat} {r : Rn} {m g : Nat → Int} (hr : w.heap[q]? = some (.cells (rnC r).toArray 91 (0, 0))) (ho : r.i.op = 43) (hm : r.m = flV rb) (hM : Mem w rb pb n m g) (hn : 0 < n ∧ n ≤ 1000) (hx : r.a.a + r.i.im = x) (hx64 : x + 16 < 18446744073709551616) (him : r.i.im < 9223372036854775808) (ham : r.a.m < 18446744073709551616) (hsB : spB (spM r.a.m x) < 18446744073709551616) (hsT : spT (spM r.a.m x) < 18446744073709551616) (hrd : r.i.rd < 9223372036854775808) (hxn : x < n * 4096) (hal : x % 16 = 0) (hchk : chkN (moveT r.a.t r.a.m r.a.a x) r.a.m x 1 16 = 0) {y z : Cq} (hy : y = ⟨bit g (x / 16), leN m (x + 8) 8, leN m x 8⟩) (hz : z = if pwN 8 (r.a.m / 4294967296 % 512) = true then y else ⟨false, y.m, y.a⟩) {K : Value → World → Prop}
    (hK : ∀ w', Ext [q] w w' → K (.tuple #[.agg (cxC (withX r.c r.i.rd z)).toArray, .agg (ouC 0 0 0 r.i).toArray]) w') : callsK Tryz.prog 73 #[.pointer (some ⟨q, 0, none⟩), .int .i64 16] w K := by
  apply F73_ok
  unfold F73
  have l0 := lt_of_at hr
  simp (disch := first | assumption | omega | (simp only [szR, cq_len, cq_all, cxC_len, cxC_all, inC_len, inC_all, rnC_len, rnC_all, ouC_len, ouC_all, vwC_len, vwC_all] <;> omega) | rfl | decide) only [gen0, gen1, gen2, rulesC, rulesX, rulesM, litR, bolR, Nat.reduceAdd, Nat.reduceLeDiff, numR, memR, valR, heapR, updR, intR, decR, extR, slR, segR, thenR, pnR, Int.reduceToNat, Int.reduceAdd, Int.reduceSub, Int.reduceLT, Int.reduceLE, Nat.reduceSub, Nat.reduceMul, Nat.reduceEqDiff, zeroX_cells]
  refine joinL.intro fun J0 hJ0 => ?_
  simp (disch := first | assumption | omega | (simp only [szR, cq_len, cq_all, cxC_len, cxC_all, inC_len, inC_all, rnC_len, rnC_all, ouC_len, ouC_all, vwC_len, vwC_all] <;> omega) | rfl | decide) only [gen0, gen1, gen2, rulesC, rulesX, rulesM, litR, bolR, Nat.reduceAdd, Nat.reduceLeDiff, numR, memR, valR, heapR, updR, intR, decR, extR, slR, segR, thenR, pnR, Int.reduceToNat, Int.reduceAdd, Int.reduceSub, Int.reduceLT, Int.reduceLE, Nat.reduceSub, Nat.reduceMul, Nat.reduceEqDiff]
  have hx0 : Ext [] w ((w.alloc (.cells (cxC zeroX).toArray 42)).alloc (.cells [.int .i64 0, .int .i64 0, .int .u64 0, .int .i64 0, .int .i64 0, .int .i64 0, .int .i64 0, .int .i64 0].toArray 51)).drew := by (repeat first | assumption | exact Ext.refl | apply Ext.alloc | apply Ext.drew | (refine Ext.updN ?_ ?_; (focus first | omega | (simp only [szR] <;> omega))) | (refine Ext.updI ?_ ?_; (focus (simp; done))))
  have g1 : ((w.alloc (.cells (cxC zeroX).toArray 42)).alloc (.cells [.int .i64 0, .int .i64 0, .int .u64 0, .int .i64 0, .int .i64 0, .int .i64 0, .int .i64 0, .int .i64 0].toArray 51)).drew.heap[w.heap.size]? = some (.cells (cxC zeroX).toArray 42 (0, 0)) := (by first | with_reducible rfl | assumption | (simp (disch := first | assumption | omega | (simp only [szR, cq_len, cq_all, cxC_len, cxC_all, inC_len, inC_all, rnC_len, rnC_all, ouC_len, ouC_all, vwC_len, vwC_all] <;> omega) | rfl | decide) only [gen0, gen1, gen2, rulesC, rulesX, rulesM, litR, bolR, Nat.reduceAdd, Nat.reduceLeDiff, numR, memR, valR, heapR, updR, intR, decR, extR, slR, segR, thenR, pnR, Int.reduceToNat, Int.reduceAdd, Int.reduceSub, Int.reduceLT, Int.reduceLE, Nat.reduceSub, Nat.reduceMul, Nat.reduceEqDiff] <;> rfl))
  have g2 : ((w.alloc (.cells (cxC zeroX).toArray 42)).alloc (.cells [.int .i64 0, .int .i64 0, .int .u64 0, .int .i64 0, .int .i64 0, .int .i64 0, .int .i64 0, .int .i64 0].toArray 51)).drew.heap[w.heap.size + 1]? = some (.cells [.int .i64 0, .int .i64 0, .int .u64 0, .int .i64 0, .int .i64 0, .int .i64 0, .int .i64 0, .int .i64 0].toArray 51 (0, 0)) := (by first | with_reducible rfl | assumption | (simp (disch := first | assumption | omega | (simp only [szR, cq_len, cq_all, cxC_len, cxC_all, inC_len, inC_all, rnC_len, rnC_all, ouC_len, ouC_all, vwC_len, vwC_all] <;> omega) | rfl | decide) only [gen0, gen1, gen2, rulesC, rulesX, rulesM, litR, bolR, Nat.reduceAdd, Nat.reduceLeDiff, numR, memR, valR, heapR, updR, intR, decR, extR, slR, segR, thenR, pnR, Int.reduceToNat, Int.reduceAdd, Int.reduceSub, Int.reduceLT, Int.reduceLE, Nat.reduceSub, Nat.reduceMul, Nat.reduceEqDiff] <;> rfl))
  have g0 := hx0.at hr (by simp)
  have hM1 := hM.ext hx0 (by simp) (by simp)
  obtain ⟨b1, hb1⟩ : ∃ b1, b1 = w.heap.size := ⟨_, rfl⟩
  have hq : q < b1 := by omega
  rw [← hb1] at g1 g2 hJ0
  generalize ((w.alloc (.cells (cxC zeroX).toArray 42)).alloc (.cells [.int .i64 0, .int .i64 0, .int .u64 0, .int .i64 0, .int .i64 0, .int .i64 0, .int .i64 0, .int .i64 0].toArray 51)).drew = w1 at *
  obtain ⟨p, hp⟩ : ∃ p : Cq, p = ⟨moveT r.a.t r.a.m r.a.a x, r.a.m, x⟩ := ⟨_, rfl⟩
  have hpt : p.t = moveT r.a.t r.a.m r.a.a x := by rw [hp]
  have hpm : p.m = r.a.m := by rw [hp]
  have hpa : p.a = x := by rw [hp]
  have hw : IntKind.u64.wrap ((r.a.a : Int) + (r.i.im : Nat)) = (x : Nat) := by
    rw [wrapMod]
    omega
  refine relX.ext [] ?_
  refine postX.is (.pointer (some ⟨q, 0, none⟩)) (fun v w2 hR _ => okX.is) ?_
  refine postX.is (.pointer (some ⟨q, 0, none⟩)) (fun v w2 hR hd => by
    obtain ⟨d1, -⟩ := hd
    simp (disch := first | assumption | omega | (simp only [szR, cq_len, cq_all, cxC_len, cxC_all, inC_len, inC_all, rnC_len, rnC_all, ouC_len, ouC_all, vwC_len, vwC_all] <;> omega) | rfl | decide) only [gen0, gen1, gen2, rulesC, rulesX, rulesM, litR, bolR, Nat.reduceAdd, Nat.reduceLeDiff, numR, memR, valR, heapR, updR, intR, decR, extR, slR, segR, thenR, pnR, Int.reduceToNat, Int.reduceAdd, Int.reduceSub, Int.reduceLT, Int.reduceLE, Nat.reduceSub, Nat.reduceMul, Nat.reduceEqDiff, d1]
    exact okX.is) ?_
  refine postX.is (.pointer (some ⟨q, 204, none⟩)) (fun v w2 hR hd => by
    obtain ⟨d1, -⟩ := hd
    simp (disch := first | assumption | omega | (simp only [szR, cq_len, cq_all, cxC_len, cxC_all, inC_len, inC_all, rnC_len, rnC_all, ouC_len, ouC_all, vwC_len, vwC_all] <;> omega) | rfl | decide) only [gen0, gen1, gen2, rulesC, rulesX, rulesM, litR, bolR, Nat.reduceAdd, Nat.reduceLeDiff, numR, memR, valR, heapR, updR, intR, decR, extR, slR, segR, thenR, pnR, Int.reduceToNat, Int.reduceAdd, Int.reduceSub, Int.reduceLT, Int.reduceLE, Nat.reduceSub, Nat.reduceMul, Nat.reduceEqDiff, d1]
    exact okX.is) ?_
  refine postX.is (.agg (cq r.a).toArray) (fun v w2 hR hd => by
    obtain ⟨d1, -⟩ := hd
    have e := hR.at g0 (by simp)
    simp (disch := first | assumption | omega | (simp only [szR, cq_len, cq_all, cxC_len, cxC_all, inC_len, inC_all, rnC_len, rnC_all, ouC_len, ouC_all, vwC_len, vwC_all] <;> omega) | rfl | decide) only [gen0, gen1, gen2, rulesC, rulesX, rulesM, litR, bolR, Nat.reduceAdd, Nat.reduceLeDiff, numR, memR, valR, heapR, updR, intR, decR, extR, slR, segR, thenR, pnR, Int.reduceToNat, Int.reduceAdd, Int.reduceSub, Int.reduceLT, Int.reduceLE, Nat.reduceSub, Nat.reduceMul, Nat.reduceEqDiff, d1, e, rn_a]
    exact okX.is) ?_
  refine postX.is (.pointer (some ⟨q, 0, none⟩)) (fun v w2 hR _ => okX.is) ?_
  refine postX.is (.pointer (some ⟨q, 0, none⟩)) (fun v w2 hR hd => by
    obtain ⟨d1, -⟩ := hd
    simp (disch := first | assumption | omega | (simp only [szR, cq_len, cq_all, cxC_len, cxC_all, inC_len, inC_all, rnC_len, rnC_all, ouC_len, ouC_all, vwC_len, vwC_all] <;> omega) | rfl | decide) only [gen0, gen1, gen2, rulesC, rulesX, rulesM, litR, bolR, Nat.reduceAdd, Nat.reduceLeDiff, numR, memR, valR, heapR, updR, intR, decR, extR, slR, segR, thenR, pnR, Int.reduceToNat, Int.reduceAdd, Int.reduceSub, Int.reduceLT, Int.reduceLE, Nat.reduceSub, Nat.reduceMul, Nat.reduceEqDiff, d1]
    exact okX.is) ?_
  refine postX.is (.pointer (some ⟨q, 199, none⟩)) (fun v w2 hR hd => by
    obtain ⟨d1, -⟩ := hd
    simp (disch := first | assumption | omega | (simp only [szR, cq_len, cq_all, cxC_len, cxC_all, inC_len, inC_all, rnC_len, rnC_all, ouC_len, ouC_all, vwC_len, vwC_all] <;> omega) | rfl | decide) only [gen0, gen1, gen2, rulesC, rulesX, rulesM, litR, bolR, Nat.reduceAdd, Nat.reduceLeDiff, numR, memR, valR, heapR, updR, intR, decR, extR, slR, segR, thenR, pnR, Int.reduceToNat, Int.reduceAdd, Int.reduceSub, Int.reduceLT, Int.reduceLE, Nat.reduceSub, Nat.reduceMul, Nat.reduceEqDiff, d1]
    exact okX.is) ?_
  refine postX.is (.pointer (some ⟨q, 203, none⟩)) (fun v w2 hR hd => by
    obtain ⟨d1, -⟩ := hd
    simp (disch := first | assumption | omega | (simp only [szR, cq_len, cq_all, cxC_len, cxC_all, inC_len, inC_all, rnC_len, rnC_all, ouC_len, ouC_all, vwC_len, vwC_all] <;> omega) | rfl | decide) only [gen0, gen1, gen2, rulesC, rulesX, rulesM, litR, bolR, Nat.reduceAdd, Nat.reduceLeDiff, numR, memR, valR, heapR, updR, intR, decR, extR, slR, segR, thenR, pnR, Int.reduceToNat, Int.reduceAdd, Int.reduceSub, Int.reduceLT, Int.reduceLE, Nat.reduceSub, Nat.reduceMul, Nat.reduceEqDiff, d1]
    exact okX.is) ?_
  refine postX.is (.int .i64 (r.i.im : Nat)) (fun v w2 hR hd => by
    obtain ⟨d1, -⟩ := hd
    have e := hR.at g0 (by simp)
    simp (disch := first | assumption | omega | (simp only [szR, cq_len, cq_all, cxC_len, cxC_all, inC_len, inC_all, rnC_len, rnC_all, ouC_len, ouC_all, vwC_len, vwC_all] <;> omega) | rfl | decide) only [gen0, gen1, gen2, rulesC, rulesX, rulesM, litR, bolR, Nat.reduceAdd, Nat.reduceLeDiff, numR, memR, valR, heapR, updR, intR, decR, extR, slR, segR, thenR, pnR, Int.reduceToNat, Int.reduceAdd, Int.reduceSub, Int.reduceLT, Int.reduceLE, Nat.reduceSub, Nat.reduceMul, Nat.reduceEqDiff, d1, e, rn_im]
    exact okX.is) ?_
  refine postX.is (.int .u64 (r.i.im : Nat)) (fun v w2 hR hd => by
    obtain ⟨d1, -⟩ := hd
    simp (disch := first | assumption | omega | (simp only [szR, cq_len, cq_all, cxC_len, cxC_all, inC_len, inC_all, rnC_len, rnC_all, ouC_len, ouC_all, vwC_len, vwC_all] <;> omega) | rfl | decide) only [gen0, gen1, gen2, rulesC, rulesX, rulesM, litR, bolR, Nat.reduceAdd, Nat.reduceLeDiff, numR, memR, valR, heapR, updR, intR, decR, extR, slR, segR, thenR, pnR, Int.reduceToNat, Int.reduceAdd, Int.reduceSub, Int.reduceLT, Int.reduceLE, Nat.reduceSub, Nat.reduceMul, Nat.reduceEqDiff, d1]
    exact okX.is) ?_
  refine postX.is (.agg (cq p).toArray) (fun v w2 hR hd => by
    obtain ⟨d1, d2, -⟩ := hd
    simp (disch := first | assumption | omega | (simp only [szR, cq_len, cq_all, cxC_len, cxC_all, inC_len, inC_all, rnC_len, rnC_all, ouC_len, ouC_all, vwC_len, vwC_all] <;> omega) | rfl | decide) only [gen0, gen1, gen2, rulesC, rulesX, rulesM, litR, bolR, Nat.reduceAdd, Nat.reduceLeDiff, numR, memR, valR, heapR, updR, intR, decR, extR, slR, segR, thenR, pnR, Int.reduceToNat, Int.reduceAdd, Int.reduceSub, Int.reduceLT, Int.reduceLE, Nat.reduceSub, Nat.reduceMul, Nat.reduceEqDiff, d1, d2]
    refine Move_spec (t := r.a.t) (m := r.a.m) (a := r.a.a) (b := x) ham (by omega) (by omega) hw fun w3 hx3 => okX.mk hx3 (by rw [hp]; rfl)) ?_
  refine postX.intro (fun v w => ∃ b, v = .pointer (some ⟨b, 0, none⟩) ∧ w1.heap.size ≤ b ∧ w.heap[b]? = some (.cells [.bool false, .int .u64 0, .int .u64 0].toArray 24 (0, 0))) (fun _ w w' hR h => by
    obtain ⟨b, h1, h2, h3⟩ := h
    exact ⟨b, h1, h2, hR.at h3 (by simp)⟩) (fun v w2 hR _ => by
    simp (disch := first | assumption | omega | (simp only [szR, cq_len, cq_all, cxC_len, cxC_all, inC_len, inC_all, rnC_len, rnC_all, ouC_len, ouC_all, vwC_len, vwC_all] <;> omega) | rfl | decide) only [gen0, gen1, gen2, rulesC, rulesX, rulesM, litR, bolR, Nat.reduceAdd, Nat.reduceLeDiff, numR, memR, valR, heapR, updR, intR, decR, extR, slR, segR, thenR, pnR, Int.reduceToNat, Int.reduceAdd, Int.reduceSub, Int.reduceLT, Int.reduceLE, Nat.reduceSub, Nat.reduceMul, Nat.reduceEqDiff]
    refine okX.mk (by (repeat first | assumption | exact Ext.refl | apply Ext.alloc | apply Ext.drew | (refine Ext.updN ?_ ?_; (focus first | omega | (simp only [szR] <;> omega))) | (refine Ext.updI ?_ ?_; (focus (simp; done))))) ⟨w2.heap.size, rfl, hR.size, (by first | with_reducible rfl | assumption | (simp (disch := first | assumption | omega | (simp only [szR, cq_len, cq_all, cxC_len, cxC_all, inC_len, inC_all, rnC_len, rnC_all, ouC_len, ouC_all, vwC_len, vwC_all] <;> omega) | rfl | decide) only [gen0, gen1, gen2, rulesC, rulesX, rulesM, litR, bolR, Nat.reduceAdd, Nat.reduceLeDiff, numR, memR, valR, heapR, updR, intR, decR, extR, slR, segR, thenR, pnR, Int.reduceToNat, Int.reduceAdd, Int.reduceSub, Int.reduceLT, Int.reduceLE, Nat.reduceSub, Nat.reduceMul, Nat.reduceEqDiff] <;> rfl))⟩) ?_
  intro v w2 hR hd _
  obtain ⟨-, -, -, -, -, -, -, -, -, -, d25, ⟨b6, d6, hb6, h6⟩, -⟩ := hd
  have h0 := hR.at g0 (by simp)
  have h1 := hR.at g1 (by simp)
  have h2 := hR.at g2 (by simp)
  have hM2 := hM1.ext hR (by simp) (by simp)
  rw [d25, d6]
  have lg0 := lt_of_at g0
  have lg1 := lt_of_at g1
  have lg2 := lt_of_at g2
  have lM := hM1.lt
  have l6 := lt_of_at h6
  simp (disch := first | assumption | omega | (simp only [szR, cq_len, cq_all, cxC_len, cxC_all, inC_len, inC_all, rnC_len, rnC_all, ouC_len, ouC_all, vwC_len, vwC_all] <;> omega) | rfl | decide) only [gen0, gen1, gen2, rulesC, rulesX, rulesM, litR, bolR, Nat.reduceAdd, Nat.reduceLeDiff, numR, memR, valR, heapR, updR, intR, decR, extR, slR, segR, thenR, pnR, Int.reduceToNat, Int.reduceAdd, Int.reduceSub, Int.reduceLT, Int.reduceLE, Nat.reduceSub, Nat.reduceMul, Nat.reduceEqDiff, h6, cq_over0, cq_put]
  apply hJ0
  intro _
  have c2 : (cq p)[2]? = some (.int .u64 (p.a : Nat)) := rfl
  have hxe : Ext [b6] w2 (World.upd w2 b6 (cq p)).drew := by (repeat first | assumption | exact Ext.refl | apply Ext.alloc | apply Ext.drew | (refine Ext.updN ?_ ?_; (focus first | omega | (simp only [szR] <;> omega))) | (refine Ext.updI ?_ ?_; (focus (simp; done))))
  have m0 : (World.upd w2 b6 (cq p)).drew.heap[q]? = some (.cells (rnC r).toArray 91 (0, 0)) := (upd_ne (by omega)).trans h0
  have m1 : (World.upd w2 b6 (cq p)).drew.heap[b1]? = some (.cells (cxC zeroX).toArray 42 (0, 0)) := (upd_ne (by omega)).trans h1
  have m2 : (World.upd w2 b6 (cq p)).drew.heap[b1 + 1]? = some (.cells [.int .i64 0, .int .i64 0, .int .u64 0, .int .i64 0, .int .i64 0, .int .i64 0, .int .i64 0, .int .i64 0].toArray 51 (0, 0)) := (upd_ne (by omega)).trans h2
  have m6 : (World.upd w2 b6 (cq p)).drew.heap[b6]? = some (.cells (cq p).toArray 24 (0, 0)) := upd_at h6
  have hM3 : Mem (World.upd w2 b6 (cq p)).drew rb pb n m g := hM2.ext hxe (by simp; omega) (by simp; omega)
  have hs01 := hx0.size
  have hxa : Ext [] w (World.upd w2 b6 (cq p)).drew := (hx0.trans hR (by simp)).trans hxe (by simp; omega)
  simp (disch := first | assumption | omega | (simp only [szR, cq_len, cq_all, cxC_len, cxC_all, inC_len, inC_all, rnC_len, rnC_all, ouC_len, ouC_all, vwC_len, vwC_all] <;> omega) | rfl | decide) only [gen0, gen1, gen2, rulesC, rulesX, rulesM, litR, bolR, Nat.reduceAdd, Nat.reduceLeDiff, numR, memR, valR, heapR, updR, intR, decR, extR, slR, segR, thenR, pnR, Int.reduceToNat, Int.reduceAdd, Int.reduceSub, Int.reduceLT, Int.reduceLE, Nat.reduceSub, Nat.reduceMul, Nat.reduceEqDiff, h6, cq_sub]
  refine kindR_still m0 ho ?_
  simp (disch := first | assumption | omega | (simp only [szR, cq_len, cq_all, cxC_len, cxC_all, inC_len, inC_all, rnC_len, rnC_all, ouC_len, ouC_all, vwC_len, vwC_all] <;> omega) | rfl | decide) only [gen0, gen1, gen2, rulesC, rulesX, rulesM, litR, bolR, Nat.reduceAdd, Nat.reduceLeDiff, numR, memR, valR, heapR, updR, intR, decR, extR, slR, segR, thenR, pnR, Int.reduceToNat, Int.reduceAdd, Int.reduceSub, Int.reduceLT, Int.reduceLE, Nat.reduceSub, Nat.reduceMul, Nat.reduceEqDiff]
  refine Check_spec (t := p.t) (m := p.m) (a := p.a) (k := 1) (n := 16) (by rw [hpm]; exact ham) (by omega) (by decide) (Nat.le_refl _) (by omega) (by rw [hpm, hpa]; exact hsB) (by rw [hpm, hpa]; exact hsT) fun w4 hx4 => ?_
  have n0 := hx4.at m0 (by simp)
  have n1 := hx4.at m1 (by simp)
  have n2 := hx4.at m2 (by simp)
  have n6 := hx4.at m6 (by simp)
  have hM4 := hM3.ext hx4 (by simp) (by simp)
  have hxb := hxa.trans hx4 (by simp)
  have ln1 := lt_of_at n1
  have ln2 := lt_of_at n2
  have ln6 := lt_of_at n6
  have hck : ((chkN p.t p.m p.a 1 16 : Nat) : Int) = 0 := by rw [hpt, hpm, hpa, hchk]; rfl
  have hrem : ((p.a : Nat) : Int) % 16 = 0 := by omega
  have eop := rn_op r
  rw [ho] at eop
  rw [hck]
  simp (disch := first | assumption | omega | (simp only [szR, cq_len, cq_all, cxC_len, cxC_all, inC_len, inC_all, rnC_len, rnC_all, ouC_len, ouC_all, vwC_len, vwC_all] <;> omega) | rfl | decide) only [gen0, gen1, gen2, rulesC, rulesX, rulesM, litR, bolR, Nat.reduceAdd, Nat.reduceLeDiff, numR, memR, valR, heapR, updR, intR, decR, extR, slR, segR, thenR, pnR, Int.reduceToNat, Int.reduceAdd, Int.reduceSub, Int.reduceLT, Int.reduceLE, Nat.reduceSub, Nat.reduceMul, Nat.reduceEqDiff, n6, c2, hrem]
  refine joinL.intro fun J6 hJ6 => ?_
  simp (disch := first | assumption | omega | (simp only [szR, cq_len, cq_all, cxC_len, cxC_all, inC_len, inC_all, rnC_len, rnC_all, ouC_len, ouC_all, vwC_len, vwC_all] <;> omega) | rfl | decide) only [gen0, gen1, gen2, rulesC, rulesX, rulesM, litR, bolR, Nat.reduceAdd, Nat.reduceLeDiff, numR, memR, valR, heapR, updR, intR, decR, extR, slR, segR, thenR, pnR, Int.reduceToNat, Int.reduceAdd, Int.reduceSub, Int.reduceLT, Int.reduceLE, Nat.reduceSub, Nat.reduceMul, Nat.reduceEqDiff, n0, eop]
  refine joinL.intro fun J12 hJ12 => ?_
  simp (disch := first | assumption | omega | (simp only [szR, cq_len, cq_all, cxC_len, cxC_all, inC_len, inC_all, rnC_len, rnC_all, ouC_len, ouC_all, vwC_len, vwC_all] <;> omega) | rfl | decide) only [gen0, gen1, gen2, rulesC, rulesX, rulesM, litR, bolR, Nat.reduceAdd, Nat.reduceLeDiff, numR, memR, valR, heapR, updR, intR, decR, extR, slR, segR, thenR, pnR, Int.reduceToNat, Int.reduceAdd, Int.reduceSub, Int.reduceLT, Int.reduceLE, Nat.reduceSub, Nat.reduceMul, Nat.reduceEqDiff]
  have hxd : Ext [] w4 w4.drew := by (repeat first | assumption | exact Ext.refl | apply Ext.alloc | apply Ext.drew | (refine Ext.updN ?_ ?_; (focus first | omega | (simp only [szR] <;> omega))) | (refine Ext.updI ?_ ?_; (focus (simp; done))))
  have p0 := hxd.at n0 (by simp)
  have p1 := hxd.at n1 (by simp)
  have p2 := hxd.at n2 (by simp)
  have p6 := hxd.at n6 (by simp)
  have hM5 := hM4.ext hxd (by simp) (by simp)
  have hxe2 := hxb.trans hxd (by simp)
  have lM5 := hM5.lt
  have lp0 := lt_of_at p0
  have lp1 := lt_of_at p1
  have lp2 := lt_of_at p2
  have lp6 := lt_of_at p6
  generalize w4.drew = w9 at *
  refine relX.anyR w9.heap.size (.cells (cq y).toArray 24 (0, 0)) ?_
  refine postX.is (.pointer (some ⟨q, 0, none⟩)) (fun v w2 hR _ => okX.any) ?_
  refine postX.is (.pointer (some ⟨q, 0, none⟩)) (fun v w2 hR hd => by
    obtain ⟨d1, -⟩ := hd
    simp (disch := first | assumption | omega | (simp only [szR, cq_len, cq_all, cxC_len, cxC_all, inC_len, inC_all, rnC_len, rnC_all, ouC_len, ouC_all, vwC_len, vwC_all] <;> omega) | rfl | decide) only [gen0, gen1, gen2, rulesC, rulesX, rulesM, litR, bolR, Nat.reduceAdd, Nat.reduceLeDiff, numR, memR, valR, heapR, updR, intR, decR, extR, slR, segR, thenR, pnR, Int.reduceToNat, Int.reduceAdd, Int.reduceSub, Int.reduceLT, Int.reduceLE, Nat.reduceSub, Nat.reduceMul, Nat.reduceEqDiff, d1]
    exact okX.any) ?_
  refine postX.is (.pointer (some ⟨q, 198, none⟩)) (fun v w2 hR hd => by
    obtain ⟨d1, -⟩ := hd
    simp (disch := first | assumption | omega | (simp only [szR, cq_len, cq_all, cxC_len, cxC_all, inC_len, inC_all, rnC_len, rnC_all, ouC_len, ouC_all, vwC_len, vwC_all] <;> omega) | rfl | decide) only [gen0, gen1, gen2, rulesC, rulesX, rulesM, litR, bolR, Nat.reduceAdd, Nat.reduceLeDiff, numR, memR, valR, heapR, updR, intR, decR, extR, slR, segR, thenR, pnR, Int.reduceToNat, Int.reduceAdd, Int.reduceSub, Int.reduceLT, Int.reduceLE, Nat.reduceSub, Nat.reduceMul, Nat.reduceEqDiff, d1]
    exact okX.any) ?_
  refine postX.is (flV rb) (fun v w2 hR hd => by
    obtain ⟨d1, -⟩ := hd
    have e := hR.at p0 lp0
    simp (disch := first | assumption | omega | (simp only [szR, cq_len, cq_all, cxC_len, cxC_all, inC_len, inC_all, rnC_len, rnC_all, ouC_len, ouC_all, vwC_len, vwC_all] <;> omega) | rfl | decide) only [gen0, gen1, gen2, rulesC, rulesX, rulesM, litR, bolR, Nat.reduceAdd, Nat.reduceLeDiff, numR, memR, valR, heapR, updR, intR, decR, extR, slR, segR, thenR, pnR, Int.reduceToNat, Int.reduceAdd, Int.reduceSub, Int.reduceLT, Int.reduceLE, Nat.reduceSub, Nat.reduceMul, Nat.reduceEqDiff, d1, e, rn_m]
    rw [hm]
    exact okX.any) ?_
  refine postX.is (.pointer (some ⟨b6, 2, none⟩)) (fun v w2 hR hd => by
    simp (disch := first | assumption | omega | (simp only [szR, cq_len, cq_all, cxC_len, cxC_all, inC_len, inC_all, rnC_len, rnC_all, ouC_len, ouC_all, vwC_len, vwC_all] <;> omega) | rfl | decide) only [gen0, gen1, gen2, rulesC, rulesX, rulesM, litR, bolR, Nat.reduceAdd, Nat.reduceLeDiff, numR, memR, valR, heapR, updR, intR, decR, extR, slR, segR, thenR, pnR, Int.reduceToNat, Int.reduceAdd, Int.reduceSub, Int.reduceLT, Int.reduceLE, Nat.reduceSub, Nat.reduceMul, Nat.reduceEqDiff]
    exact okX.any) ?_
  refine postX.is (.int .u64 (p.a : Nat)) (fun v w2 hR hd => by
    obtain ⟨d1, -⟩ := hd
    have e := hR.at p6 lp6
    simp (disch := first | assumption | omega | (simp only [szR, cq_len, cq_all, cxC_len, cxC_all, inC_len, inC_all, rnC_len, rnC_all, ouC_len, ouC_all, vwC_len, vwC_all] <;> omega) | rfl | decide) only [gen0, gen1, gen2, rulesC, rulesX, rulesM, litR, bolR, Nat.reduceAdd, Nat.reduceLeDiff, numR, memR, valR, heapR, updR, intR, decR, extR, slR, segR, thenR, pnR, Int.reduceToNat, Int.reduceAdd, Int.reduceSub, Int.reduceLT, Int.reduceLE, Nat.reduceSub, Nat.reduceMul, Nat.reduceEqDiff, d1, e, c2]
    exact okX.any) ?_
  refine postX.is (.tuple #[.agg (cq y).toArray, .int .i64 0]) (fun v w2 hR hd => by
    obtain ⟨d1, d2, -⟩ := hd
    rw [d1, d2]
    refine loadCap_m ?_
    rw [hpa]
    refine FLoadCap_spec (hR.mem hM5 lM5.1 lM5.2) hn hxn hal fun w3 hx3 => okX.mk (AnyR.of hx3) ?_
    rw [hy]) ?_
  refine postX.is (.tuple #[.agg (cq y).toArray, .int .i64 0]) (fun v w2 hR hd => by
    obtain ⟨d1, -⟩ := hd
    rw [d1]
    exact okX.any) ?_
  refine postX.is (.agg (cq y).toArray) (fun v w2 hR hd => by
    obtain ⟨d1, -⟩ := hd
    simp (disch := first | assumption | omega | (simp only [szR, cq_len, cq_all, cxC_len, cxC_all, inC_len, inC_all, rnC_len, rnC_all, ouC_len, ouC_all, vwC_len, vwC_all] <;> omega) | rfl | decide) only [gen0, gen1, gen2, rulesC, rulesX, rulesM, litR, bolR, Nat.reduceAdd, Nat.reduceLeDiff, numR, memR, valR, heapR, updR, intR, decR, extR, slR, segR, thenR, pnR, Int.reduceToNat, Int.reduceAdd, Int.reduceSub, Int.reduceLT, Int.reduceLE, Nat.reduceSub, Nat.reduceMul, Nat.reduceEqDiff, d1]
    exact okX.any) ?_
  refine postX.is (.int .i64 0) (fun v w2 hR hd => by
    obtain ⟨d1, -⟩ := hd
    simp (disch := first | assumption | omega | (simp only [szR, cq_len, cq_all, cxC_len, cxC_all, inC_len, inC_all, rnC_len, rnC_all, ouC_len, ouC_all, vwC_len, vwC_all] <;> omega) | rfl | decide) only [gen0, gen1, gen2, rulesC, rulesX, rulesM, litR, bolR, Nat.reduceAdd, Nat.reduceLeDiff, numR, memR, valR, heapR, updR, intR, decR, extR, slR, segR, thenR, pnR, Int.reduceToNat, Int.reduceAdd, Int.reduceSub, Int.reduceLT, Int.reduceLE, Nat.reduceSub, Nat.reduceMul, Nat.reduceEqDiff, d1]
    exact okX.any) ?_
  refine postX.intro (fun v w => ∃ b, v = .pointer (some ⟨b, 0, none⟩) ∧ w9.heap.size ≤ b ∧ ∃ u : Cq, w.heap[b]? = some (.cells (cq u).toArray 24 (0, 0))) (fun _ w w' hR h => by
    obtain ⟨b, h1, h2, u, h3⟩ := h
    rcases hR.2 _ _ h3 with h | ⟨-, h⟩
    · exact ⟨b, h1, h2, u, h⟩
    · exact ⟨b, h1, h2, y, h⟩) (fun v w2 hR _ => by
    have hs := hR.1.choose_spec.1.size
    simp (disch := first | assumption | omega | (simp only [szR, cq_len, cq_all, cxC_len, cxC_all, inC_len, inC_all, rnC_len, rnC_all, ouC_len, ouC_all, vwC_len, vwC_all] <;> omega) | rfl | decide) only [gen0, gen1, gen2, rulesC, rulesX, rulesM, litR, bolR, Nat.reduceAdd, Nat.reduceLeDiff, numR, memR, valR, heapR, updR, intR, decR, extR, slR, segR, thenR, pnR, Int.reduceToNat, Int.reduceAdd, Int.reduceSub, Int.reduceLT, Int.reduceLE, Nat.reduceSub, Nat.reduceMul, Nat.reduceEqDiff, cq_zero]
    have hxa : Ext [] w2 (w2.alloc (.cells (cq Cq.zero).toArray 24)) := Ext.alloc Ext.refl _ _
    exact okX.mk (AnyR.of hxa) ⟨w2.heap.size, rfl, hs, Cq.zero, alloc_at rfl⟩) ?_
  refine postX.intro (fun v w => ∃ b, v = .pointer (some ⟨b, 0, none⟩) ∧ w.heap[b]? = some (.cells (cq y).toArray 24 (0, 0))) (fun _ w w' hR h => by
    obtain ⟨b, h1, h3⟩ := h
    rcases hR.2 _ _ h3 with h | ⟨-, h⟩
    · exact ⟨b, h1, h⟩
    · exact ⟨b, h1, h⟩) (fun v w2 hR hd => by
    obtain ⟨-, -, -, -, -, -, -, -, d100, ⟨b, hv, hb, u, hc⟩, -⟩ := hd
    rw [d100, hv]
    have lc := lt_of_at hc
    simp (disch := first | assumption | omega | (simp only [szR, cq_len, cq_all, cxC_len, cxC_all, inC_len, inC_all, rnC_len, rnC_all, ouC_len, ouC_all, vwC_len, vwC_all] <;> omega) | rfl | decide) only [gen0, gen1, gen2, rulesC, rulesX, rulesM, litR, bolR, Nat.reduceAdd, Nat.reduceLeDiff, numR, memR, valR, heapR, updR, intR, decR, extR, slR, segR, thenR, pnR, Int.reduceToNat, Int.reduceAdd, Int.reduceSub, Int.reduceLT, Int.reduceLE, Nat.reduceSub, Nat.reduceMul, Nat.reduceEqDiff, hc, cq_over, cq_put2]
    have hu : (World.upd w2 b (cq y)).heap[b]? = some (.cells (cq y).toArray 24 (0, 0)) := upd_at hc
    have hxu : Ext [b] w2 (World.upd w2 b (cq y)) := by (repeat first | assumption | exact Ext.refl | apply Ext.alloc | apply Ext.drew | (refine Ext.updN ?_ ?_; (focus first | omega | (simp only [szR] <;> omega))) | (refine Ext.updI ?_ ?_; (focus (simp; done))))
    refine okX.mk ⟨⟨[b], hxu, by simpa using hb⟩, fun k o hk => ?_⟩ ⟨b, rfl, hu⟩
    by_cases hkb : k = b
    · subst hkb
      exact .inr ⟨hb, hu⟩
    · exact .inl ((upd_ne hkb).trans hk)) ?_
  intro v w2 hR hd _
  obtain ⟨-, -, -, -, -, -, -, -, -, d101, ⟨b9, d9, hb9, -⟩, ⟨b9', d9', h9⟩, -⟩ := hd
  obtain rfl : b9 = b9' := by
    rw [d9] at d9'
    simp only [Value.pointer.injEq, Option.some.injEq, Addr.mk.injEq] at d9'
    exact d9'.1
  rw [d101, d9]
  apply hJ12
  intro _
  have t0 := hR.at p0 lp0
  have t1 := hR.at p1 lp1
  have t2 := hR.at p2 lp2
  have hM6 := hR.mem hM5 lM5.1 lM5.2
  have hxg : Ext [] w w2 := by
    obtain ⟨⟨S, s1, s2⟩, -⟩ := hR
    have h9 := hxe2.size
    exact hxe2.trans s1 fun k hk => .inr (by have := s2 k hk; omega)
  refine joinL.intro fun J14 hJ14 => ?_
  have hend : ∀ (w6 : World), w6.heap[q]? = some (.cells (rnC r).toArray 91 (0, 0)) → w6.heap[b1]? = some (.cells (cxC zeroX).toArray 42 (0, 0)) → w6.heap[b1 + 1]? = some (.cells [.int .i64 0, .int .i64 0, .int .u64 0, .int .i64 0, .int .i64 0, .int .i64 0, .int .i64 0, .int .i64 0].toArray 51 (0, 0)) → w6.heap[b9]? = some (.cells (cq z).toArray 24 (0, 0)) → Ext [] w w6 → J14 [] w6 := by
    intro w6 e0 e1 e2 e9 hx6
    apply hJ14
    intro _
    simp (disch := first | assumption | omega | (simp only [szR, cq_len, cq_all, cxC_len, cxC_all, inC_len, inC_all, rnC_len, rnC_all, ouC_len, ouC_all, vwC_len, vwC_all] <;> omega) | rfl | decide) only [gen0, gen1, gen2, rulesC, rulesX, rulesM, litR, bolR, Nat.reduceAdd, Nat.reduceLeDiff, numR, memR, valR, heapR, updR, intR, decR, extR, slR, segR, thenR, pnR, Int.reduceToNat, Int.reduceAdd, Int.reduceSub, Int.reduceLT, Int.reduceLE, Nat.reduceSub, Nat.reduceMul, Nat.reduceEqDiff]
    have hxd6 : Ext [] w6 w6.drew := by (repeat first | assumption | exact Ext.refl | apply Ext.alloc | apply Ext.drew | (refine Ext.updN ?_ ?_; (focus first | omega | (simp only [szR] <;> omega))) | (refine Ext.updI ?_ ?_; (focus (simp; done))))
    replace e0 := hxd6.at e0 (by simp)
    replace e1 := hxd6.at e1 (by simp)
    replace e2 := hxd6.at e2 (by simp)
    replace e9 := hxd6.at e9 (by simp)
    replace hx6 := hx6.trans hxd6 (by simp)
    clear hxd6
    generalize w6.drew = w7 at *
    obtain ⟨c', hc'⟩ : ∃ c', c' = withX r.c r.i.rd z := ⟨_, rfl⟩
    have hq9 : b9 ≠ q := by omega
    rw [← hc'] at hK
    refine relX.one q (.cells (rnC { r with c := c' }).toArray 91 (0, 0)) ?_
    refine postX.is (.pointer (some ⟨q, 0, none⟩)) (fun v w2 hR _ => okX.one) ?_
    refine postX.is (.pointer (some ⟨q, 0, none⟩)) (fun v w2 hR _ => okX.one) ?_
    refine postX.is (.pointer (some ⟨q, 0, none⟩)) (fun v w2 hR hd => by
      obtain ⟨d1, -⟩ := hd
      simp (disch := first | assumption | omega | (simp only [szR, cq_len, cq_all, cxC_len, cxC_all, inC_len, inC_all, rnC_len, rnC_all, ouC_len, ouC_all, vwC_len, vwC_all] <;> omega) | rfl | decide) only [gen0, gen1, gen2, rulesC, rulesX, rulesM, litR, bolR, Nat.reduceAdd, Nat.reduceLeDiff, numR, memR, valR, heapR, updR, intR, decR, extR, slR, segR, thenR, pnR, Int.reduceToNat, Int.reduceAdd, Int.reduceSub, Int.reduceLT, Int.reduceLE, Nat.reduceSub, Nat.reduceMul, Nat.reduceEqDiff, d1]
      exact okX.one) ?_
    refine postX.is (.pointer (some ⟨q, 0, none⟩)) (fun v w2 hR hd => by
      obtain ⟨d1, -⟩ := hd
      simp (disch := first | assumption | omega | (simp only [szR, cq_len, cq_all, cxC_len, cxC_all, inC_len, inC_all, rnC_len, rnC_all, ouC_len, ouC_all, vwC_len, vwC_all] <;> omega) | rfl | decide) only [gen0, gen1, gen2, rulesC, rulesX, rulesM, litR, bolR, Nat.reduceAdd, Nat.reduceLeDiff, numR, memR, valR, heapR, updR, intR, decR, extR, slR, segR, thenR, pnR, Int.reduceToNat, Int.reduceAdd, Int.reduceSub, Int.reduceLT, Int.reduceLE, Nat.reduceSub, Nat.reduceMul, Nat.reduceEqDiff, d1]
      exact okX.one) ?_
    refine postX.intro (fun v _ => v = .agg (cxC r.c).toArray ∨ v = .agg (cxC c').toArray) (fun _ _ _ _ h => h) (fun v w2 hR hd => by
      obtain ⟨d1, -⟩ := hd
      rcases hR.2 _ e0 with e | e
      · simp (disch := first | assumption | omega | (simp only [szR, cq_len, cq_all, cxC_len, cxC_all, inC_len, inC_all, rnC_len, rnC_all, ouC_len, ouC_all, vwC_len, vwC_all] <;> omega) | rfl | decide) only [gen0, gen1, gen2, rulesC, rulesX, rulesM, litR, bolR, Nat.reduceAdd, Nat.reduceLeDiff, numR, memR, valR, heapR, updR, intR, decR, extR, slR, segR, thenR, pnR, Int.reduceToNat, Int.reduceAdd, Int.reduceSub, Int.reduceLT, Int.reduceLE, Nat.reduceSub, Nat.reduceMul, Nat.reduceEqDiff, d1, e, rn_c]
        exact ⟨⟨Ext.refl, fun _ h => .inl h⟩, .inl rfl⟩
      · simp (disch := first | assumption | omega | (simp only [szR, cq_len, cq_all, cxC_len, cxC_all, inC_len, inC_all, rnC_len, rnC_all, ouC_len, ouC_all, vwC_len, vwC_all] <;> omega) | rfl | decide) only [gen0, gen1, gen2, rulesC, rulesX, rulesM, litR, bolR, Nat.reduceAdd, Nat.reduceLeDiff, numR, memR, valR, heapR, updR, intR, decR, extR, slR, segR, thenR, pnR, Int.reduceToNat, Int.reduceAdd, Int.reduceSub, Int.reduceLT, Int.reduceLE, Nat.reduceSub, Nat.reduceMul, Nat.reduceEqDiff, d1, e, rn_c]
        exact ⟨⟨Ext.refl, fun _ h => .inl h⟩, .inr rfl⟩) ?_
    refine postX.is (.pointer (some ⟨q, 0, none⟩)) (fun v w2 hR _ => okX.one) ?_
    refine postX.is (.pointer (some ⟨q, 0, none⟩)) (fun v w2 hR hd => by
      obtain ⟨d1, -⟩ := hd
      simp (disch := first | assumption | omega | (simp only [szR, cq_len, cq_all, cxC_len, cxC_all, inC_len, inC_all, rnC_len, rnC_all, ouC_len, ouC_all, vwC_len, vwC_all] <;> omega) | rfl | decide) only [gen0, gen1, gen2, rulesC, rulesX, rulesM, litR, bolR, Nat.reduceAdd, Nat.reduceLeDiff, numR, memR, valR, heapR, updR, intR, decR, extR, slR, segR, thenR, pnR, Int.reduceToNat, Int.reduceAdd, Int.reduceSub, Int.reduceLT, Int.reduceLE, Nat.reduceSub, Nat.reduceMul, Nat.reduceEqDiff, d1]
      exact okX.one) ?_
    refine postX.is (.pointer (some ⟨q, 199, none⟩)) (fun v w2 hR hd => by
      obtain ⟨d1, -⟩ := hd
      simp (disch := first | assumption | omega | (simp only [szR, cq_len, cq_all, cxC_len, cxC_all, inC_len, inC_all, rnC_len, rnC_all, ouC_len, ouC_all, vwC_len, vwC_all] <;> omega) | rfl | decide) only [gen0, gen1, gen2, rulesC, rulesX, rulesM, litR, bolR, Nat.reduceAdd, Nat.reduceLeDiff, numR, memR, valR, heapR, updR, intR, decR, extR, slR, segR, thenR, pnR, Int.reduceToNat, Int.reduceAdd, Int.reduceSub, Int.reduceLT, Int.reduceLE, Nat.reduceSub, Nat.reduceMul, Nat.reduceEqDiff, d1]
      exact okX.one) ?_
    refine postX.is (.pointer (some ⟨q, 200, none⟩)) (fun v w2 hR hd => by
      obtain ⟨d1, -⟩ := hd
      simp (disch := first | assumption | omega | (simp only [szR, cq_len, cq_all, cxC_len, cxC_all, inC_len, inC_all, rnC_len, rnC_all, ouC_len, ouC_all, vwC_len, vwC_all] <;> omega) | rfl | decide) only [gen0, gen1, gen2, rulesC, rulesX, rulesM, litR, bolR, Nat.reduceAdd, Nat.reduceLeDiff, numR, memR, valR, heapR, updR, intR, decR, extR, slR, segR, thenR, pnR, Int.reduceToNat, Int.reduceAdd, Int.reduceSub, Int.reduceLT, Int.reduceLE, Nat.reduceSub, Nat.reduceMul, Nat.reduceEqDiff, d1]
      exact okX.one) ?_
    refine postX.is (.int .i64 (r.i.rd : Nat)) (fun v w2 hR hd => by
      obtain ⟨d1, -⟩ := hd
      rcases hR.2 _ e0 with e | e
      · simp (disch := first | assumption | omega | (simp only [szR, cq_len, cq_all, cxC_len, cxC_all, inC_len, inC_all, rnC_len, rnC_all, ouC_len, ouC_all, vwC_len, vwC_all] <;> omega) | rfl | decide) only [gen0, gen1, gen2, rulesC, rulesX, rulesM, litR, bolR, Nat.reduceAdd, Nat.reduceLeDiff, numR, memR, valR, heapR, updR, intR, decR, extR, slR, segR, thenR, pnR, Int.reduceToNat, Int.reduceAdd, Int.reduceSub, Int.reduceLT, Int.reduceLE, Nat.reduceSub, Nat.reduceMul, Nat.reduceEqDiff, d1, e, rn_rd]
        exact okX.one
      · simp (disch := first | assumption | omega | (simp only [szR, cq_len, cq_all, cxC_len, cxC_all, inC_len, inC_all, rnC_len, rnC_all, ouC_len, ouC_all, vwC_len, vwC_all] <;> omega) | rfl | decide) only [gen0, gen1, gen2, rulesC, rulesX, rulesM, litR, bolR, Nat.reduceAdd, Nat.reduceLeDiff, numR, memR, valR, heapR, updR, intR, decR, extR, slR, segR, thenR, pnR, Int.reduceToNat, Int.reduceAdd, Int.reduceSub, Int.reduceLT, Int.reduceLE, Nat.reduceSub, Nat.reduceMul, Nat.reduceEqDiff, d1, e, rn_rd]
        exact okX.one) ?_
    refine postX.is (.agg (cq z).toArray) (fun v w2 hR _ => by
      have e := hR.1.at e9 (by simpa using hq9)
      simp (disch := first | assumption | omega | (simp only [szR, cq_len, cq_all, cxC_len, cxC_all, inC_len, inC_all, rnC_len, rnC_all, ouC_len, ouC_all, vwC_len, vwC_all] <;> omega) | rfl | decide) only [gen0, gen1, gen2, rulesC, rulesX, rulesM, litR, bolR, Nat.reduceAdd, Nat.reduceLeDiff, numR, memR, valR, heapR, updR, intR, decR, extR, slR, segR, thenR, pnR, Int.reduceToNat, Int.reduceAdd, Int.reduceSub, Int.reduceLT, Int.reduceLE, Nat.reduceSub, Nat.reduceMul, Nat.reduceEqDiff, e, cq_sub]
      exact okX.one) ?_
    refine postX.is (.agg (cxC c').toArray) (fun v w2 hR hd => by
      obtain ⟨d1, d2, d3, -⟩ := hd
      rcases d1 with d1 | d1
      · simp (disch := first | assumption | omega | (simp only [szR, cq_len, cq_all, cxC_len, cxC_all, inC_len, inC_all, rnC_len, rnC_all, ouC_len, ouC_all, vwC_len, vwC_all] <;> omega) | rfl | decide) only [gen0, gen1, gen2, rulesC, rulesX, rulesM, litR, bolR, Nat.reduceAdd, Nat.reduceLeDiff, numR, memR, valR, heapR, updR, intR, decR, extR, slR, segR, thenR, pnR, Int.reduceToNat, Int.reduceAdd, Int.reduceSub, Int.reduceLT, Int.reduceLE, Nat.reduceSub, Nat.reduceMul, Nat.reduceEqDiff, d1, d2, d3]
        refine With_reg hrd fun w3 hx3 => okX.mk ⟨hx3.mono (by simp), fun o ho => .inl (hx3.at ho (by simp))⟩ ?_
        rw [hc']
      · simp (disch := first | assumption | omega | (simp only [szR, cq_len, cq_all, cxC_len, cxC_all, inC_len, inC_all, rnC_len, rnC_all, ouC_len, ouC_all, vwC_len, vwC_all] <;> omega) | rfl | decide) only [gen0, gen1, gen2, rulesC, rulesX, rulesM, litR, bolR, Nat.reduceAdd, Nat.reduceLeDiff, numR, memR, valR, heapR, updR, intR, decR, extR, slR, segR, thenR, pnR, Int.reduceToNat, Int.reduceAdd, Int.reduceSub, Int.reduceLT, Int.reduceLE, Nat.reduceSub, Nat.reduceMul, Nat.reduceEqDiff, d1, d2, d3]
        refine With_reg hrd fun w3 hx3 => okX.mk ⟨hx3.mono (by simp), fun o ho => .inl (hx3.at ho (by simp))⟩ ?_
        rw [hc', withX_idem]) ?_
    refine postX.is (.int .i64 0) (fun v w2 hR _ => okX.one) ?_
    refine postX.is (.pointer (some ⟨q, 0, none⟩)) (fun v w2 hR hd => by
      obtain ⟨d1, -⟩ := hd
      simp (disch := first | assumption | omega | (simp only [szR, cq_len, cq_all, cxC_len, cxC_all, inC_len, inC_all, rnC_len, rnC_all, ouC_len, ouC_all, vwC_len, vwC_all] <;> omega) | rfl | decide) only [gen0, gen1, gen2, rulesC, rulesX, rulesM, litR, bolR, Nat.reduceAdd, Nat.reduceLeDiff, numR, memR, valR, heapR, updR, intR, decR, extR, slR, segR, thenR, pnR, Int.reduceToNat, Int.reduceAdd, Int.reduceSub, Int.reduceLT, Int.reduceLE, Nat.reduceSub, Nat.reduceMul, Nat.reduceEqDiff, d1]
      exact okX.one) ?_
    refine postX.is (.pointer (some ⟨q, 0, none⟩)) (fun v w2 hR hd => by
      obtain ⟨-, -, -, -, -, -, -, -, -, -, -, -, d13, -⟩ := hd
      simp (disch := first | assumption | omega | (simp only [szR, cq_len, cq_all, cxC_len, cxC_all, inC_len, inC_all, rnC_len, rnC_all, ouC_len, ouC_all, vwC_len, vwC_all] <;> omega) | rfl | decide) only [gen0, gen1, gen2, rulesC, rulesX, rulesM, litR, bolR, Nat.reduceAdd, Nat.reduceLeDiff, numR, memR, valR, heapR, updR, intR, decR, extR, slR, segR, thenR, pnR, Int.reduceToNat, Int.reduceAdd, Int.reduceSub, Int.reduceLT, Int.reduceLE, Nat.reduceSub, Nat.reduceMul, Nat.reduceEqDiff, d13]
      exact okX.one) ?_
    refine postX.intro (fun _ w => w.heap[q]? = some (.cells (rnC { r with c := c' }).toArray 91 (0, 0))) (fun _ w w' hR h => by rcases hR.2 _ h with h | h <;> exact h) (fun v w2 hR hd => by
      obtain ⟨-, -, -, -, -, -, -, -, -, -, -, d12, d13, -⟩ := hd
      have hu : ∃ r2 : Rn, w2.heap[q]? = some (.cells (rnC r2).toArray 91 (0, 0)) ∧ ({ r2 with c := c' } : Rn) = { r with c := c' } := by
        rcases hR.2 _ e0 with e | e
        · exact ⟨r, e, rfl⟩
        · exact ⟨_, e, rfl⟩
      obtain ⟨r2, e, hr2⟩ := hu
      have l := lt_of_at e
      simp (disch := first | assumption | omega | (simp only [szR, cq_len, cq_all, cxC_len, cxC_all, inC_len, inC_all, rnC_len, rnC_all, ouC_len, ouC_all, vwC_len, vwC_all] <;> omega) | rfl | decide) only [gen0, gen1, gen2, rulesC, rulesX, rulesM, litR, bolR, Nat.reduceAdd, Nat.reduceLeDiff, numR, memR, valR, heapR, updR, intR, decR, extR, slR, segR, thenR, pnR, Int.reduceToNat, Int.reduceAdd, Int.reduceSub, Int.reduceLT, Int.reduceLE, Nat.reduceSub, Nat.reduceMul, Nat.reduceEqDiff, d12, d13, e, rn_setc, rn_putc]
      rw [hr2]
      have hxe : Ext [q] w2 (World.upd w2 q (rnC { r with c := c' })) := by (repeat first | assumption | exact Ext.refl | apply Ext.alloc | apply Ext.drew | (refine Ext.updN ?_ ?_; (focus first | omega | (simp only [szR] <;> omega))) | (refine Ext.updI ?_ ?_; (focus (simp; done))))
      have hue : (World.upd w2 q (rnC { r with c := c' })).heap[q]? = some (.cells (rnC { r with c := c' }).toArray 91 (0, 0)) := upd_at e
      exact okX.mk ⟨hxe, fun x _ => .inr hue⟩ hue) ?_
    intro v w8 hR hd _
    obtain ⟨-, -, -, -, -, -, -, -, -, -, -, -, d128, -, -, k0, -⟩ := hd
    rw [d128]
    have lb1 := lt_of_at e1
    have k1 := hR.1.at e1 (by simp; omega)
    have k2 := hR.1.at e2 (by simp; omega)
    have hxf : Ext [q] w w8 := (hx6.mono (by simp)).step hR.1
    apply hJ6
    intro _
    simp (disch := first | assumption | omega | (simp only [szR, cq_len, cq_all, cxC_len, cxC_all, inC_len, inC_all, rnC_len, rnC_all, ouC_len, ouC_all, vwC_len, vwC_all] <;> omega) | rfl | decide) only [gen0, gen1, gen2, rulesC, rulesX, rulesM, litR, bolR, Nat.reduceAdd, Nat.reduceLeDiff, numR, memR, valR, heapR, updR, intR, decR, extR, slR, segR, thenR, pnR, Int.reduceToNat, Int.reduceAdd, Int.reduceSub, Int.reduceLT, Int.reduceLE, Nat.reduceSub, Nat.reduceMul, Nat.reduceEqDiff]
    refine retire_spec k0 fun w10 hx6 => ?_
    have o1 := hx6.at k1 (by simp)
    have o2 := hx6.at k2 (by simp)
    have lo1 := lt_of_at o1
    have lo2 := lt_of_at o2
    have hxg := hxf.trans hx6 (by simp)
    simp (disch := first | assumption | omega | (simp only [szR, cq_len, cq_all, cxC_len, cxC_all, inC_len, inC_all, rnC_len, rnC_all, ouC_len, ouC_all, vwC_len, vwC_all] <;> omega) | rfl | decide) only [gen0, gen1, gen2, rulesC, rulesX, rulesM, litR, bolR, Nat.reduceAdd, Nat.reduceLeDiff, numR, memR, valR, heapR, updR, intR, decR, extR, slR, segR, thenR, pnR, Int.reduceToNat, Int.reduceAdd, Int.reduceSub, Int.reduceLT, Int.reduceLE, Nat.reduceSub, Nat.reduceMul, Nat.reduceEqDiff, o1, o2, cx_over, cx_put, ou_over, ou_put, cx_sub, ou_sub]
    have hxo : Ext [b1, b1 + 1] w10 (World.upd (World.upd w10 b1 (cxC c')) (b1 + 1) (ouC 0 0 0 r.i)) := by (repeat first | assumption | exact Ext.refl | apply Ext.alloc | apply Ext.drew | (refine Ext.updN ?_ ?_; (focus first | omega | (simp only [szR] <;> omega))) | (refine Ext.updI ?_ ?_; (focus (simp; done))))
    have hxp := hxg.trans hxo (by simp; omega)
    generalize World.upd (World.upd w10 b1 (cxC c')) (b1 + 1) (ouC 0 0 0 r.i) = w11 at *
    exact hK _ hxp
  simp (disch := first | assumption | omega | (simp only [szR, cq_len, cq_all, cxC_len, cxC_all, inC_len, inC_all, rnC_len, rnC_all, ouC_len, ouC_all, vwC_len, vwC_all] <;> omega) | rfl | decide) only [gen0, gen1, gen2, rulesC, rulesX, rulesM, litR, bolR, Nat.reduceAdd, Nat.reduceLeDiff, numR, memR, valR, heapR, updR, intR, decR, extR, slR, segR, thenR, pnR, Int.reduceToNat, Int.reduceAdd, Int.reduceSub, Int.reduceLT, Int.reduceLE, Nat.reduceSub, Nat.reduceMul, Nat.reduceEqDiff, t0, rn_a]
  refine Look_spec (t := r.a.t) (m := r.a.m) (a := r.a.a) ham (by omega) fun w6 hx6 => ?_
  have f0 := hx6.at t0 (by simp)
  have f1 := hx6.at t1 (by simp)
  have f2 := hx6.at t2 (by simp)
  have f9 := hx6.at h9 (by simp)
  have lf0 := lt_of_at f0
  have lf1 := lt_of_at f1
  have lf2 := lt_of_at f2
  have lf9 := lt_of_at f9
  have hxh := hxg.trans hx6 (by simp)
  have v2 : (vwC r.a.m r.a.a)[2]? = some (.int .u64 (r.a.m / 4294967296 % 512 : Nat)) := rfl
  simp (disch := first | assumption | omega | (simp only [szR, cq_len, cq_all, cxC_len, cxC_all, inC_len, inC_all, rnC_len, rnC_all, ouC_len, ouC_all, vwC_len, vwC_all] <;> omega) | rfl | decide) only [gen0, gen1, gen2, rulesC, rulesX, rulesM, litR, bolR, Nat.reduceAdd, Nat.reduceLeDiff, numR, memR, valR, heapR, updR, intR, decR, extR, slR, segR, thenR, pnR, Int.reduceToNat, Int.reduceAdd, Int.reduceSub, Int.reduceLT, Int.reduceLE, Nat.reduceSub, Nat.reduceMul, Nat.reduceEqDiff, vw_over, vw_over2, v2]
  refine pw_spec (p := 8) (q := r.a.m / 4294967296 % 512) (by omega) (by omega) ?_
  cases hpw : pwN 8 (r.a.m / 4294967296 % 512) with
  | true =>
    rw [hpw, if_pos rfl] at hz
    simp (disch := first | assumption | omega | (simp only [szR, cq_len, cq_all, cxC_len, cxC_all, inC_len, inC_all, rnC_len, rnC_all, ouC_len, ouC_all, vwC_len, vwC_all] <;> omega) | rfl | decide) only [gen0, gen1, gen2, rulesC, rulesX, rulesM, litR, bolR, Nat.reduceAdd, Nat.reduceLeDiff, numR, memR, valR, heapR, updR, intR, decR, extR, slR, segR, thenR, pnR, Int.reduceToNat, Int.reduceAdd, Int.reduceSub, Int.reduceLT, Int.reduceLE, Nat.reduceSub, Nat.reduceMul, Nat.reduceEqDiff, Bool.not_true]
    have hxi : Ext [] w6 (w6.alloc (.cells (vwC r.a.m r.a.a).toArray 28)) := Ext.alloc Ext.refl _ _
    refine hend _ (hxi.at f0 (by simp)) (hxi.at f1 (by simp)) (hxi.at f2 (by simp)) ?_ (hxh.trans hxi (by simp))
    rw [hz]
    exact hxi.at f9 (by simp)
  | false =>
    rw [hpw, if_neg (by simp)] at hz
    simp (disch := first | assumption | omega | (simp only [szR, cq_len, cq_all, cxC_len, cxC_all, inC_len, inC_all, rnC_len, rnC_all, ouC_len, ouC_all, vwC_len, vwC_all] <;> omega) | rfl | decide) only [gen0, gen1, gen2, rulesC, rulesX, rulesM, litR, bolR, Nat.reduceAdd, Nat.reduceLeDiff, numR, memR, valR, heapR, updR, intR, decR, extR, slR, segR, thenR, pnR, Int.reduceToNat, Int.reduceAdd, Int.reduceSub, Int.reduceLT, Int.reduceLE, Nat.reduceSub, Nat.reduceMul, Nat.reduceEqDiff, Bool.not_false, f9, cq_sub]
    have hxi : Ext [] w6 (w6.alloc (.cells (vwC r.a.m r.a.a).toArray 28)) := Ext.alloc Ext.refl _ _
    refine Clear_spec (t := y.t) (m := y.m) (a := y.a) fun w7 hx7 => ?_
    have hxj := hxi.trans hx7 (by simp)
    have ez : cpC false y.m y.a = cq z := by rw [hz]; rfl
    have e0 := hxj.at f0 (by simp)
    have e1 := hxj.at f1 (by simp)
    have e2 := hxj.at f2 (by simp)
    have e9 := hxj.at f9 (by simp)
    have le9 := lt_of_at e9
    rw [ez]
    simp (disch := first | assumption | omega | (simp only [szR, cq_len, cq_all, cxC_len, cxC_all, inC_len, inC_all, rnC_len, rnC_all, ouC_len, ouC_all, vwC_len, vwC_all] <;> omega) | rfl | decide) only [gen0, gen1, gen2, rulesC, rulesX, rulesM, litR, bolR, Nat.reduceAdd, Nat.reduceLeDiff, numR, memR, valR, heapR, updR, intR, decR, extR, slR, segR, thenR, pnR, Int.reduceToNat, Int.reduceAdd, Int.reduceSub, Int.reduceLT, Int.reduceLE, Nat.reduceSub, Nat.reduceMul, Nat.reduceEqDiff, List.getD_cons_zero, e9, cq_over, cq_put2]
    have hxu : Ext [b9] w7 (World.upd w7 b9 (cq z)) := by (repeat first | assumption | exact Ext.refl | apply Ext.alloc | apply Ext.drew | (refine Ext.updN ?_ ?_; (focus first | omega | (simp only [szR] <;> omega))) | (refine Ext.updI ?_ ?_; (focus (simp; done))))
    exact hend _ ((upd_ne (by omega)).trans e0) ((upd_ne (by omega)).trans e1) ((upd_ne (by omega)).trans e2) (upd_at e9) ((hxh.trans hxj (by simp)).trans hxu (by simp; omega))
end Go.Proofs.YtplfniijbeinmaaGreat
