/- Jumps, as they are run; conditions: those of each theorem. -/
import Derived.Test.YtplfniijbeinmaaGreatJmp1
namespace Go.Proofs.YtplfniijbeinmaaGreat
open Go.Fx
set_option maxRecDepth 100000
set_option linter.unusedSimpArgs false
set_option linter.unusedVariables false
theorem rn_dp (r : Rn) : sub (rnC r) 195 3 = cq (r.d 32) := by
  unfold rnC
  rw [sub_right (k := 96) (by rw [cxC_len]), sub_left (by rw [cxC_len]; omega), cx_at (k := 32) (by omega)]
theorem rn_setp (r : Rn) (x : Cq) : splice (rnC r) 96 (cq x) = rnC { r with c := setX r.c 32 x } := by
  unfold rnC
  rw [splice_left (by rw [cxC_len, cq_len]; omega), cx_with (k := 32) (by omega)]
theorem field_pcc (c : Nat → Cq) (w : World) : (Instr.field 42 (.agg (cxC c).toArray) 1).run Tryz.prog w = .ok (.agg (cq (c 32)).toArray) w := by kernel_rfl
theorem width3_spec {w : World} {n : Nat} (hn : n < 11) {K : Value → World → Prop} (hK : ∀ w', Ext [] w w' → K (.int .i64 0) w') : callsK Tryz.prog 72 #[.int .i64 (n : Nat)] w K := by
  apply F72_ok
  unfold F72
  simp (disch := first | assumption | omega | (simp only [szR, cq_len, cq_all, cxC_len, cxC_all, inC_len, inC_all, rnC_len, rnC_all, ouC_len, ouC_all, vwC_len, vwC_all, lvC_len, lvC_all, cpC_len, cpC_all] <;> omega) | rfl | decide) only [gen0, gen1, gen2, rulesC, rulesX, rulesM, rulesJ, litR, bolR, Nat.reduceAdd, Nat.reduceLeDiff, numR, memR, valR, heapR, updR, intR, decR, extR, slR, segR, thenR, pnR, Int.reduceToNat, Int.reduceAdd, Int.reduceSub, Int.reduceLT, Int.reduceLE, Nat.reduceSub, Nat.reduceMul, Nat.reduceEqDiff]
  refine loads_spec (by omega) ?_
  rw [decide_eq_false (by omega)]
  simp (disch := first | assumption | omega | (simp only [szR, cq_len, cq_all, cxC_len, cxC_all, inC_len, inC_all, rnC_len, rnC_all, ouC_len, ouC_all, vwC_len, vwC_all, lvC_len, lvC_all, cpC_len, cpC_all] <;> omega) | rfl | decide) only [gen0, gen1, gen2, rulesC, rulesX, rulesM, rulesJ, litR, bolR, Nat.reduceAdd, Nat.reduceLeDiff, numR, memR, valR, heapR, updR, intR, decR, extR, slR, segR, thenR, pnR, Int.reduceToNat, Int.reduceAdd, Int.reduceSub, Int.reduceLT, Int.reduceLE, Nat.reduceSub, Nat.reduceMul, Nat.reduceEqDiff]
  refine stores_spec (by omega) ?_
  rw [decide_eq_false (by omega)]
  simp (disch := first | assumption | omega | (simp only [szR, cq_len, cq_all, cxC_len, cxC_all, inC_len, inC_all, rnC_len, rnC_all, ouC_len, ouC_all, vwC_len, vwC_all, lvC_len, lvC_all, cpC_len, cpC_all] <;> omega) | rfl | decide) only [gen0, gen1, gen2, rulesC, rulesX, rulesM, rulesJ, litR, bolR, Nat.reduceAdd, Nat.reduceLeDiff, numR, memR, valR, heapR, updR, intR, decR, extR, slR, segR, thenR, pnR, Int.reduceToNat, Int.reduceAdd, Int.reduceSub, Int.reduceLT, Int.reduceLE, Nat.reduceSub, Nat.reduceMul, Nat.reduceEqDiff, joinBR]
  exact hK _ (by (repeat first | assumption | exact Ext.refl | apply Ext.alloc | apply Ext.drew | (refine Ext.updN ?_ ?_; (focus first | omega | (simp only [szR] <;> omega))) | (refine Ext.updI ?_ ?_; (focus (simp; done)))))
set_option maxHeartbeats 1000000 in
theorem runJal_spec {w : World} {q a b : Nat} {r : Rn} (hr : w.heap[q]? = some (.cells (rnC r).toArray 91 (0, 0))) (ho : r.i.op = 3) (hd : r.d 32 = ⟨true, pjM, a⟩) (ha : a + 4 ≤ 160) (him : r.i.im < 9223372036854775808) (hb : a + r.i.im = b) (hb2 : b ≤ 160) (hrd : r.i.rd < 9223372036854775808)
    {K : Value → World → Prop} (hK : ∀ w', Ext [q] w w' → K (.tuple #[.agg (cxC (withX (setX r.c 32 ⟨true, pjM, b⟩) r.i.rd ⟨true, seM, a + 4⟩)).toArray, .agg (ouC 0 0 0 r.i).toArray]) w') : callsK Tryz.prog 32 #[.pointer (some ⟨q, 0, none⟩)] w K := by
  apply F32_ok
  unfold F32
  have l0 := lt_of_at hr
  have eop := rn_op r
  rw [ho] at eop
  have hx0 := two_x w
  have g1 := two_1 w
  have g2 := two_2 w
  have g0 := hx0.at hr (by simp)
  simp (disch := first | assumption | omega | (simp only [szR, cq_len, cq_all, cxC_len, cxC_all, inC_len, inC_all, rnC_len, rnC_all, ouC_len, ouC_all, vwC_len, vwC_all, lvC_len, lvC_all, cpC_len, cpC_all] <;> omega) | rfl | decide) only [gen0, gen1, gen2, rulesC, rulesX, rulesM, rulesJ, litR, bolR, Nat.reduceAdd, Nat.reduceLeDiff, numR, memR, valR, heapR, updR, intR, decR, extR, slR, segR, thenR, pnR, Int.reduceToNat, Int.reduceAdd, Int.reduceSub, Int.reduceLT, Int.reduceLE, Nat.reduceSub, Nat.reduceMul, Nat.reduceEqDiff, zeroX_cells]
  simp (disch := first | assumption | omega | (simp only [szR, cq_len, cq_all, cxC_len, cxC_all, inC_len, inC_all, rnC_len, rnC_all, ouC_len, ouC_all, vwC_len, vwC_all, lvC_len, lvC_all, cpC_len, cpC_all] <;> omega) | rfl | decide) only [gen0, gen1, gen2, rulesC, rulesX, rulesM, rulesJ, litR, bolR, Nat.reduceAdd, Nat.reduceLeDiff, numR, memR, valR, heapR, updR, intR, decR, extR, slR, segR, thenR, pnR, Int.reduceToNat, Int.reduceAdd, Int.reduceSub, Int.reduceLT, Int.reduceLE, Nat.reduceSub, Nat.reduceMul, Nat.reduceEqDiff, hr, eop]
  refine branches_spec (n := 3) (by omega) ?_
  rw [decide_eq_false (by omega)]
  simp (disch := first | assumption | omega | (simp only [szR, cq_len, cq_all, cxC_len, cxC_all, inC_len, inC_all, rnC_len, rnC_all, ouC_len, ouC_all, vwC_len, vwC_all, lvC_len, lvC_all, cpC_len, cpC_all] <;> omega) | rfl | decide) only [gen0, gen1, gen2, rulesC, rulesX, rulesM, rulesJ, litR, bolR, Nat.reduceAdd, Nat.reduceLeDiff, numR, memR, valR, heapR, updR, intR, decR, extR, slR, segR, thenR, pnR, Int.reduceToNat, Int.reduceAdd, Int.reduceSub, Int.reduceLT, Int.reduceLE, Nat.reduceSub, Nat.reduceMul, Nat.reduceEqDiff]
  refine width3_spec (n := 3) (by omega) fun w2 hx2 => ?_
  have k0 := hx2.at g0 (by simp)
  have k1 := hx2.at g1 (by simp)
  have k2 := hx2.at g2 (by simp)
  have lk0 := lt_of_at k0
  have lk1 := lt_of_at k1
  have lk2 := lt_of_at k2
  have hxa := hx0.trans hx2 (by simp)
  have eim := rn_im r
  have edp := rn_dp r
  rw [hd] at edp
  have hwr : IntKind.u64.wrap ((a : Int) + (r.i.im : Nat)) = (b : Int) := by
    rw [wrapMod]
    omega
  simp (disch := first | assumption | omega | (simp only [szR, cq_len, cq_all, cxC_len, cxC_all, inC_len, inC_all, rnC_len, rnC_all, ouC_len, ouC_all, vwC_len, vwC_all, lvC_len, lvC_all, cpC_len, cpC_all] <;> omega) | rfl | decide) only [gen0, gen1, gen2, rulesC, rulesX, rulesM, rulesJ, litR, bolR, Nat.reduceAdd, Nat.reduceLeDiff, numR, memR, valR, heapR, updR, intR, decR, extR, slR, segR, thenR, pnR, Int.reduceToNat, Int.reduceAdd, Int.reduceSub, Int.reduceLT, Int.reduceLE, Nat.reduceSub, Nat.reduceMul, Nat.reduceEqDiff]
  refine joinL.intro fun J4 hJ4 => ?_
  simp (disch := first | assumption | omega | (simp only [szR, cq_len, cq_all, cxC_len, cxC_all, inC_len, inC_all, rnC_len, rnC_all, ouC_len, ouC_all, vwC_len, vwC_all, lvC_len, lvC_all, cpC_len, cpC_all] <;> omega) | rfl | decide) only [gen0, gen1, gen2, rulesC, rulesX, rulesM, rulesJ, litR, bolR, Nat.reduceAdd, Nat.reduceLeDiff, numR, memR, valR, heapR, updR, intR, decR, extR, slR, segR, thenR, pnR, Int.reduceToNat, Int.reduceAdd, Int.reduceSub, Int.reduceLT, Int.reduceLE, Nat.reduceSub, Nat.reduceMul, Nat.reduceEqDiff]
  have hxd : Ext [] w2 w2.drew := by (repeat first | assumption | exact Ext.refl | apply Ext.alloc | apply Ext.drew | (refine Ext.updN ?_ ?_; (focus first | omega | (simp only [szR] <;> omega))) | (refine Ext.updI ?_ ?_; (focus (simp; done))))
  replace k0 := hxd.at k0 (by simp)
  replace k1 := hxd.at k1 (by simp)
  replace k2 := hxd.at k2 (by simp)
  replace hxa := hxa.trans hxd (by simp)
  generalize w2.drew = w3 at *
  refine relX.ext [] ?_
  (repeat (apply postX.is; (focus (intro v w2 hR hd; have e0 := hR.at k0 (by simp); (try simp (disch := first | assumption | omega | (simp only [szR, cq_len, cq_all, cxC_len, cxC_all, inC_len, inC_all, rnC_len, rnC_all, ouC_len, ouC_all, vwC_len, vwC_all, lvC_len, lvC_all, cpC_len, cpC_all] <;> omega) | rfl | decide) only [gen0, gen1, gen2, rulesC, rulesX, rulesM, rulesJ, litR, bolR, Nat.reduceAdd, Nat.reduceLeDiff, numR, memR, valR, heapR, updR, intR, decR, extR, slR, segR, thenR, pnR, Int.reduceToNat, Int.reduceAdd, Int.reduceSub, Int.reduceLT, Int.reduceLE, Nat.reduceSub, Nat.reduceMul, Nat.reduceEqDiff, hd, e0, edp, eim]); exact okX.is))))
  apply postX.is
  · intro v w5 hR hdd
    simp (disch := first | assumption | omega | (simp only [szR, cq_len, cq_all, cxC_len, cxC_all, inC_len, inC_all, rnC_len, rnC_all, ouC_len, ouC_all, vwC_len, vwC_all, lvC_len, lvC_all, cpC_len, cpC_all] <;> omega) | rfl | decide) only [gen0, gen1, gen2, rulesC, rulesX, rulesM, rulesJ, litR, bolR, Nat.reduceAdd, Nat.reduceLeDiff, numR, memR, valR, heapR, updR, intR, decR, extR, slR, segR, thenR, pnR, Int.reduceToNat, Int.reduceAdd, Int.reduceSub, Int.reduceLT, Int.reduceLE, Nat.reduceSub, Nat.reduceMul, Nat.reduceEqDiff, hdd]
    exact pjMove_spec (a := a) (b := b) (by omega) hb2 hwr fun w6 hx6 => okX.mk hx6 rfl
  intro v w5 hR hdd _
  replace k0 := hR.at k0 (by simp)
  replace k1 := hR.at k1 (by simp)
  replace k2 := hR.at k2 (by simp)
  replace hxa := hxa.trans hR (by simp)
  replace lk0 := lt_of_at k0
  simp (disch := first | assumption | omega | (simp only [szR, cq_len, cq_all, cxC_len, cxC_all, inC_len, inC_all, rnC_len, rnC_all, ouC_len, ouC_all, vwC_len, vwC_all, lvC_len, lvC_all, cpC_len, cpC_all] <;> omega) | rfl | decide) only [gen0, gen1, gen2, rulesC, rulesX, rulesM, rulesJ, litR, bolR, Nat.reduceAdd, Nat.reduceLeDiff, numR, memR, valR, heapR, updR, intR, decR, extR, slR, segR, thenR, pnR, Int.reduceToNat, Int.reduceAdd, Int.reduceSub, Int.reduceLT, Int.reduceLE, Nat.reduceSub, Nat.reduceMul, Nat.reduceEqDiff, hdd, k0, rn_setp]
  have m0 : (World.upd w5 q (rnC { r with c := setX r.c 32 ⟨true, pjM, b⟩ })).heap[q]? = some (.cells (rnC { r with c := setX r.c 32 ⟨true, pjM, b⟩ }).toArray 91 (0, 0)) := upd_at k0
  have hxu : Ext [q] w5 (World.upd w5 q (rnC { r with c := setX r.c 32 ⟨true, pjM, b⟩ })) := by (repeat first | assumption | exact Ext.refl | apply Ext.alloc | apply Ext.drew | (refine Ext.updN ?_ ?_; (focus first | omega | (simp only [szR] <;> omega))) | (refine Ext.updI ?_ ?_; (focus (simp; done))))
  have m1 := hxu.at k1 (by simp; omega)
  have m2 := hxu.at k2 (by simp; omega)
  have hxb : Ext [q] w (World.upd w5 q (rnC { r with c := setX r.c 32 ⟨true, pjM, b⟩ })) := (hxa.mono (by simp)).step hxu
  generalize World.upd w5 q (rnC { r with c := setX r.c 32 ⟨true, pjM, b⟩ }) = w6 at *
  have er := rn_d { r with c := setX r.c 32 ⟨true, pjM, b⟩ }
  apply hJ4
  intro _
  simp (disch := first | assumption | omega | (simp only [szR, cq_len, cq_all, cxC_len, cxC_all, inC_len, inC_all, rnC_len, rnC_all, ouC_len, ouC_all, vwC_len, vwC_all, lvC_len, lvC_all, cpC_len, cpC_all] <;> omega) | rfl | decide) only [gen0, gen1, gen2, rulesC, rulesX, rulesM, rulesJ, litR, bolR, Nat.reduceAdd, Nat.reduceLeDiff, numR, memR, valR, heapR, updR, intR, decR, extR, slR, segR, thenR, pnR, Int.reduceToNat, Int.reduceAdd, Int.reduceSub, Int.reduceLT, Int.reduceLE, Nat.reduceSub, Nat.reduceMul, Nat.reduceEqDiff, m0, er]
  refine Next_spec (c := r.d) (by rw [hd]; show pjM < _; decide) (by rw [hd]; show a < _; omega) fun w7 hx7 => ?_
  rw [pj_next hd ha]
  have hpc : (setX r.d 32 ⟨true, pjM, a + 4⟩) 32 = ⟨true, pjM, a + 4⟩ := rfl
  have hfl := field_pcc (setX r.d 32 ⟨true, pjM, a + 4⟩)
  rw [hpc] at hfl
  simp (disch := first | assumption | omega | (simp only [szR, cq_len, cq_all, cxC_len, cxC_all, inC_len, inC_all, rnC_len, rnC_all, ouC_len, ouC_all, vwC_len, vwC_all, lvC_len, lvC_all, cpC_len, cpC_all] <;> omega) | rfl | decide) only [gen0, gen1, gen2, rulesC, rulesX, rulesM, rulesJ, litR, bolR, Nat.reduceAdd, Nat.reduceLeDiff, numR, memR, valR, heapR, updR, intR, decR, extR, slR, segR, thenR, pnR, Int.reduceToNat, Int.reduceAdd, Int.reduceSub, Int.reduceLT, Int.reduceLE, Nat.reduceSub, Nat.reduceMul, Nat.reduceEqDiff, hfl]
  refine Enter_spec (a := a + 4) (by omega) fun w8 hx8 => ?_
  have hxc := hx7.trans hx8 (by simp)
  replace m0 := hxc.at m0 (by simp)
  replace m1 := hxc.at m1 (by simp)
  replace m2 := hxc.at m2 (by simp)
  simp (disch := first | assumption | omega | (simp only [szR, cq_len, cq_all, cxC_len, cxC_all, inC_len, inC_all, rnC_len, rnC_all, ouC_len, ouC_all, vwC_len, vwC_all, lvC_len, lvC_all, cpC_len, cpC_all] <;> omega) | rfl | decide) only [gen0, gen1, gen2, rulesC, rulesX, rulesM, rulesJ, litR, bolR, Nat.reduceAdd, Nat.reduceLeDiff, numR, memR, valR, heapR, updR, intR, decR, extR, slR, segR, thenR, pnR, Int.reduceToNat, Int.reduceAdd, Int.reduceSub, Int.reduceLT, Int.reduceLE, Nat.reduceSub, Nat.reduceMul, Nat.reduceEqDiff]
  refine tell_spec (x := ⟨true, seM, a + 4⟩) m0 hrd fun w9 hx9 => ?_
  replace m1 := hx9.at m1 (by simp; omega)
  replace m2 := hx9.at m2 (by simp; omega)
  have lm1 := lt_of_at m1
  have lm2 := lt_of_at m2
  have hxe : Ext [q] w w9 := (hxb.step (hxc.mono (by simp))).step hx9
  simp (disch := first | assumption | omega | (simp only [szR, cq_len, cq_all, cxC_len, cxC_all, inC_len, inC_all, rnC_len, rnC_all, ouC_len, ouC_all, vwC_len, vwC_all, lvC_len, lvC_all, cpC_len, cpC_all] <;> omega) | rfl | decide) only [gen0, gen1, gen2, rulesC, rulesX, rulesM, rulesJ, litR, bolR, Nat.reduceAdd, Nat.reduceLeDiff, numR, memR, valR, heapR, updR, intR, decR, extR, slR, segR, thenR, pnR, Int.reduceToNat, Int.reduceAdd, Int.reduceSub, Int.reduceLT, Int.reduceLE, Nat.reduceSub, Nat.reduceMul, Nat.reduceEqDiff, m1, m2, cx_over, cx_put, ou_over, ou_put, cx_sub, ou_sub]
  generalize withX (setX r.c 32 ⟨true, pjM, b⟩) r.i.rd ⟨true, seM, a + 4⟩ = d at *
  have hxo : Ext [w.heap.size, w.heap.size + 1] w9 (World.upd (World.upd w9 w.heap.size (cxC d)) (w.heap.size + 1) (ouC 0 0 0 r.i)) := by (repeat first | assumption | exact Ext.refl | apply Ext.alloc | apply Ext.drew | (refine Ext.updN ?_ ?_; (focus first | omega | (simp only [szR] <;> omega))) | (refine Ext.updI ?_ ?_; (focus (simp; done))))
  exact hK _ (hxe.trans hxo (by simp))
/-- what a jump does first. -/
theorem even_all : (List.range 81).all (fun k => decide (bitI .andNot .u64 ((2 * k : Nat) : Int) 1 = ((2 * k : Nat) : Int))) = true := by kernel_rfl
theorem rn_at0 (r : Rn) : (rnC r)[204]? = some (.bool r.a.t) := by
  rw [get_sub (o := 204) (n := 3) (j := 0) (by omega), rn_a]
  rfl
theorem vw_3 (m a : Nat) : (vwC m a)[3]? = some (.int .u64 (m / 281474976710656 % 4096 : Nat)) := rfl
set_option maxHeartbeats 1000000 in
theorem jumpTrap_spec {w : World} {q a : Nat} {r : Rn} (hr : w.heap[q]? = some (.cells (rnC r).toArray 91 (0, 0))) (hra : r.a = ⟨true, seM, a⟩) (ha : a ≤ 160) (him : r.i.im ≠ 0) (hil : r.i.im < 9223372036854775808)
    {K : Value → World → Prop} (hK : ∀ w', Ext [] w w' → K (.tuple #[.agg (cxC r.d).toArray, .agg (ouC 5 2 a r.i).toArray]) w') : callsK Tryz.prog 76 #[.pointer (some ⟨q, 0, none⟩)] w K := by
  apply F76_ok
  unfold F76
  have l0 := lt_of_at hr
  have hx0 := two_x w
  have g1 := two_1 w
  have g2 := two_2 w
  have g0 := hx0.at hr (by simp)
  have ea := rn_a r
  rw [hra] at ea
  have et := rn_at0 r
  rw [hra] at et
  have eim := rn_im r
  have eaa := rn_aa r
  rw [hra] at eaa
  have hne : ¬ ((r.i.im : Nat) : Int) = 0 := by omega
  simp (disch := first | assumption | omega | (simp only [szR, cq_len, cq_all, cxC_len, cxC_all, inC_len, inC_all, rnC_len, rnC_all, ouC_len, ouC_all, vwC_len, vwC_all, lvC_len, lvC_all, cpC_len, cpC_all] <;> omega) | rfl | decide) only [gen0, gen1, gen2, rulesC, rulesX, rulesM, rulesJ, litR, bolR, Nat.reduceAdd, Nat.reduceLeDiff, numR, memR, valR, heapR, updR, intR, decR, extR, slR, segR, thenR, pnR, Int.reduceToNat, Int.reduceAdd, Int.reduceSub, Int.reduceLT, Int.reduceLE, Nat.reduceSub, Nat.reduceMul, Nat.reduceEqDiff, zeroX_cells]
  simp (disch := first | assumption | omega | (simp only [szR, cq_len, cq_all, cxC_len, cxC_all, inC_len, inC_all, rnC_len, rnC_all, ouC_len, ouC_all, vwC_len, vwC_all, lvC_len, lvC_all, cpC_len, cpC_all] <;> omega) | rfl | decide) only [gen0, gen1, gen2, rulesC, rulesX, rulesM, rulesJ, litR, bolR, Nat.reduceAdd, Nat.reduceLeDiff, numR, memR, valR, heapR, updR, intR, decR, extR, slR, segR, thenR, pnR, Int.reduceToNat, Int.reduceAdd, Int.reduceSub, Int.reduceLT, Int.reduceLE, Nat.reduceSub, Nat.reduceMul, Nat.reduceEqDiff, hr, ea]
  refine pjLook_spec ha fun w2 hx2 => ?_
  replace g0 := hx2.at g0 (by simp)
  replace g1 := hx2.at g1 (by simp)
  replace g2 := hx2.at g2 (by simp)
  have lg0 := lt_of_at g0
  have lg1 := lt_of_at g1
  have lg2 := lt_of_at g2
  have hxa := hx0.trans hx2 (by simp)
  have e3 := vw_3 seM a
  rw [show ((seM / 281474976710656 % 4096 : Nat) : Int) = 1 from by kernel_rfl] at e3
  simp (disch := first | assumption | omega | (simp only [szR, cq_len, cq_all, cxC_len, cxC_all, inC_len, inC_all, rnC_len, rnC_all, ouC_len, ouC_all, vwC_len, vwC_all, lvC_len, lvC_all, cpC_len, cpC_all] <;> omega) | rfl | decide) only [gen0, gen1, gen2, rulesC, rulesX, rulesM, rulesJ, litR, bolR, Nat.reduceAdd, Nat.reduceLeDiff, numR, memR, valR, heapR, updR, intR, decR, extR, slR, segR, thenR, pnR, Int.reduceToNat, Int.reduceAdd, Int.reduceSub, Int.reduceLT, Int.reduceLE, Nat.reduceSub, Nat.reduceMul, Nat.reduceEqDiff, joinBR, vw_over, vw_over2, g0, et, e3, eim, eaa, if_true]
  have hxb : Ext [] w2 (w2.alloc (.cells (vwC seM a).toArray 28)) := Ext.alloc Ext.refl _ _
  refine trap_spec (k := 5) (e := 2) (va := a) (hxb.at g0 (by simp)) fun w3 hx3 => ?_
  have hxc := hxb.trans hx3 (by simp)
  replace g1 := hxc.at g1 (by simp)
  replace g2 := hxc.at g2 (by simp)
  have lm1 := lt_of_at g1
  have lm2 := lt_of_at g2
  have hxd := hxa.trans hxc (by simp)
  simp (disch := first | assumption | omega | (simp only [szR, cq_len, cq_all, cxC_len, cxC_all, inC_len, inC_all, rnC_len, rnC_all, ouC_len, ouC_all, vwC_len, vwC_all, lvC_len, lvC_all, cpC_len, cpC_all] <;> omega) | rfl | decide) only [gen0, gen1, gen2, rulesC, rulesX, rulesM, rulesJ, litR, bolR, Nat.reduceAdd, Nat.reduceLeDiff, numR, memR, valR, heapR, updR, intR, decR, extR, slR, segR, thenR, pnR, Int.reduceToNat, Int.reduceAdd, Int.reduceSub, Int.reduceLT, Int.reduceLE, Nat.reduceSub, Nat.reduceMul, Nat.reduceEqDiff, g1, g2, cx_over, cx_put, ou_over, ou_put, cx_sub, ou_sub]
  have hxo : Ext [w.heap.size, w.heap.size + 1] w3 (World.upd (World.upd w3 w.heap.size (cxC r.d)) (w.heap.size + 1) (ouC 5 2 a r.i)) := by (repeat first | assumption | exact Ext.refl | apply Ext.alloc | apply Ext.drew | (refine Ext.updN ?_ ?_; (focus first | omega | (simp only [szR] <;> omega))) | (refine Ext.updI ?_ ?_; (focus (simp; done))))
  exact hK _ (hxd.trans hxo (by simp))
set_option maxHeartbeats 1000000 in
theorem jump_spec {w : World} {q a b : Nat} {r : Rn} (hr : w.heap[q]? = some (.cells (rnC r).toArray 91 (0, 0))) (hra : r.a = ⟨true, seM, a⟩) (ha : a ≤ 160) (hev : a % 2 = 0) (him : r.i.im = 0) (hd : r.d 32 = ⟨true, pjM, b⟩) (hb : b + 4 ≤ 160) (hrd : r.i.rd < 9223372036854775808)
    {K : Value → World → Prop} (hK : ∀ w', Ext [q] w w' → K (.tuple #[.agg (cxC (withX (setX r.c 32 ⟨true, pjM, a⟩) r.i.rd ⟨true, seM, b + 4⟩)).toArray, .agg (ouC 0 0 0 r.i).toArray]) w') : callsK Tryz.prog 76 #[.pointer (some ⟨q, 0, none⟩)] w K := by
  apply F76_ok
  unfold F76
  have l0 := lt_of_at hr
  have hx0 := two_x w
  have g1 := two_1 w
  have g2 := two_2 w
  have g0 := hx0.at hr (by simp)
  have ea := rn_a r
  rw [hra] at ea
  have et := rn_at0 r
  rw [hra] at et
  have eim := rn_im r
  rw [him] at eim
  have eaa := rn_aa r
  rw [hra] at eaa
  simp (disch := first | assumption | omega | (simp only [szR, cq_len, cq_all, cxC_len, cxC_all, inC_len, inC_all, rnC_len, rnC_all, ouC_len, ouC_all, vwC_len, vwC_all, lvC_len, lvC_all, cpC_len, cpC_all] <;> omega) | rfl | decide) only [gen0, gen1, gen2, rulesC, rulesX, rulesM, rulesJ, litR, bolR, Nat.reduceAdd, Nat.reduceLeDiff, numR, memR, valR, heapR, updR, intR, decR, extR, slR, segR, thenR, pnR, Int.reduceToNat, Int.reduceAdd, Int.reduceSub, Int.reduceLT, Int.reduceLE, Nat.reduceSub, Nat.reduceMul, Nat.reduceEqDiff, zeroX_cells]
  simp (disch := first | assumption | omega | (simp only [szR, cq_len, cq_all, cxC_len, cxC_all, inC_len, inC_all, rnC_len, rnC_all, ouC_len, ouC_all, vwC_len, vwC_all, lvC_len, lvC_all, cpC_len, cpC_all] <;> omega) | rfl | decide) only [gen0, gen1, gen2, rulesC, rulesX, rulesM, rulesJ, litR, bolR, Nat.reduceAdd, Nat.reduceLeDiff, numR, memR, valR, heapR, updR, intR, decR, extR, slR, segR, thenR, pnR, Int.reduceToNat, Int.reduceAdd, Int.reduceSub, Int.reduceLT, Int.reduceLE, Nat.reduceSub, Nat.reduceMul, Nat.reduceEqDiff, hr, ea]
  refine pjLook_spec ha fun w2 hx2 => ?_
  replace g0 := hx2.at g0 (by simp)
  replace g1 := hx2.at g1 (by simp)
  replace g2 := hx2.at g2 (by simp)
  have lg0 := lt_of_at g0
  have lg1 := lt_of_at g1
  have lg2 := lt_of_at g2
  have hxa := hx0.trans hx2 (by simp)
  have e3 := vw_3 seM a
  rw [show ((seM / 281474976710656 % 4096 : Nat) : Int) = 1 from by kernel_rfl] at e3
  have e0 : ((0 : Nat) : Int) = 0 := rfl
  rw [e0] at eim
  simp (disch := first | assumption | omega | (simp only [szR, cq_len, cq_all, cxC_len, cxC_all, inC_len, inC_all, rnC_len, rnC_all, ouC_len, ouC_all, vwC_len, vwC_all, lvC_len, lvC_all, cpC_len, cpC_all] <;> omega) | rfl | decide) only [gen0, gen1, gen2, rulesC, rulesX, rulesM, rulesJ, litR, bolR, Nat.reduceAdd, Nat.reduceLeDiff, numR, memR, valR, heapR, updR, intR, decR, extR, slR, segR, thenR, pnR, Int.reduceToNat, Int.reduceAdd, Int.reduceSub, Int.reduceLT, Int.reduceLE, Nat.reduceSub, Nat.reduceMul, Nat.reduceEqDiff, joinBR, vw_over, vw_over2, g0, et, e3, eim, eaa, if_true, ea]
  have hxb : Ext [] w2 (w2.alloc (.cells (vwC seM a).toArray 28)) := Ext.alloc Ext.refl _ _
  refine Open_spec ha fun w3 hx3 => ?_
  have hxc := hxb.trans hx3 (by simp)
  replace g0 := hxc.at g0 (by simp)
  replace g1 := hxc.at g1 (by simp)
  replace g2 := hxc.at g2 (by simp)
  replace hxa := hxa.trans hxc (by simp)
  simp (disch := first | assumption | omega | (simp only [szR, cq_len, cq_all, cxC_len, cxC_all, inC_len, inC_all, rnC_len, rnC_all, ouC_len, ouC_all, vwC_len, vwC_all, lvC_len, lvC_all, cpC_len, cpC_all] <;> omega) | rfl | decide) only [gen0, gen1, gen2, rulesC, rulesX, rulesM, rulesJ, litR, bolR, Nat.reduceAdd, Nat.reduceLeDiff, numR, memR, valR, heapR, updR, intR, decR, extR, slR, segR, thenR, pnR, Int.reduceToNat, Int.reduceAdd, Int.reduceSub, Int.reduceLT, Int.reduceLE, Nat.reduceSub, Nat.reduceMul, Nat.reduceEqDiff, cq_over0, cq_put, cq_sub]
  have hl := pj_lim (a := a) ha
  refine Check_spec (t := true) (m := pjM) (a := a) (k := 0) (n := 0) (by decide) (by omega) (by omega) (by omega) (by omega) hl.1 hl.2 fun w4 hx4 => ?_
  have hxe : Ext [] w3 w4 := Ext.trans (S := []) (by (repeat first | assumption | exact Ext.refl | apply Ext.alloc | apply Ext.drew | (refine Ext.updN ?_ ?_; (focus first | omega | (simp only [szR] <;> omega))) | (refine Ext.updI ?_ ?_; (focus (simp; done))))) hx4 (by simp)
  have g6 : w4.heap[w3.heap.size]? = some (.cells (cq ⟨true, pjM, a⟩).toArray 24 (0, 0)) := hx4.at (alloc_at rfl) (by simp)
  replace g0 := hxe.at g0 (by simp)
  replace g1 := hxe.at g1 (by simp)
  replace g2 := hxe.at g2 (by simp)
  replace hxa := hxa.trans hxe (by simp)
  rw [pj_chk (by omega)]
  simp (disch := first | assumption | omega | (simp only [szR, cq_len, cq_all, cxC_len, cxC_all, inC_len, inC_all, rnC_len, rnC_all, ouC_len, ouC_all, vwC_len, vwC_all, lvC_len, lvC_all, cpC_len, cpC_all] <;> omega) | rfl | decide) only [gen0, gen1, gen2, rulesC, rulesX, rulesM, rulesJ, litR, bolR, Nat.reduceAdd, Nat.reduceLeDiff, numR, memR, valR, heapR, updR, intR, decR, extR, slR, segR, thenR, pnR, Int.reduceToNat, Int.reduceAdd, Int.reduceSub, Int.reduceLT, Int.reduceLE, Nat.reduceSub, Nat.reduceMul, Nat.reduceEqDiff]
  refine joinL.intro fun J6 hJ6 => ?_
  simp (disch := first | assumption | omega | (simp only [szR, cq_len, cq_all, cxC_len, cxC_all, inC_len, inC_all, rnC_len, rnC_all, ouC_len, ouC_all, vwC_len, vwC_all, lvC_len, lvC_all, cpC_len, cpC_all] <;> omega) | rfl | decide) only [gen0, gen1, gen2, rulesC, rulesX, rulesM, rulesJ, litR, bolR, Nat.reduceAdd, Nat.reduceLeDiff, numR, memR, valR, heapR, updR, intR, decR, extR, slR, segR, thenR, pnR, Int.reduceToNat, Int.reduceAdd, Int.reduceSub, Int.reduceLT, Int.reduceLE, Nat.reduceSub, Nat.reduceMul, Nat.reduceEqDiff]
  have hxd : Ext [] w4 w4.drew := by (repeat first | assumption | exact Ext.refl | apply Ext.alloc | apply Ext.drew | (refine Ext.updN ?_ ?_; (focus first | omega | (simp only [szR] <;> omega))) | (refine Ext.updI ?_ ?_; (focus (simp; done))))
  replace g0 := hxd.at g0 (by simp)
  replace g1 := hxd.at g1 (by simp)
  replace g2 := hxd.at g2 (by simp)
  replace g6 := hxd.at g6 (by simp)
  replace hxa := hxa.trans hxd (by simp)
  generalize w3.heap.size = b6 at *
  generalize w4.drew = w5 at *
  have hev2 : bitI .andNot .u64 (a : Int) 1 = (a : Int) := by
    have := of_decide_eq_true (List.all_eq_true.1 even_all (a / 2) (List.mem_range.2 (by omega)))
    rw [show 2 * (a / 2) = a by omega] at this
    exact this
  have c2 : (cq ⟨true, pjM, a⟩)[2]? = some (.int .u64 (a : Nat)) := rfl
  refine relX.ext [] ?_
  (repeat (apply postX.is; (focus (intro v w2 hR hd; have e0 := hR.at g0 (by simp); have e1 := hR.at g6 (by simp); (try simp (disch := first | assumption | omega | (simp only [szR, cq_len, cq_all, cxC_len, cxC_all, inC_len, inC_all, rnC_len, rnC_all, ouC_len, ouC_all, vwC_len, vwC_all, lvC_len, lvC_all, cpC_len, cpC_all] <;> omega) | rfl | decide) only [gen0, gen1, gen2, rulesC, rulesX, rulesM, rulesJ, litR, bolR, Nat.reduceAdd, Nat.reduceLeDiff, numR, memR, valR, heapR, updR, intR, decR, extR, slR, segR, thenR, pnR, Int.reduceToNat, Int.reduceAdd, Int.reduceSub, Int.reduceLT, Int.reduceLE, Nat.reduceSub, Nat.reduceMul, Nat.reduceEqDiff, hd, e0, e1, cq_sub, c2, eim, Int.add_zero, hev2]); exact okX.is))))
  apply postX.is
  · intro v w7 hR hdd
    simp (disch := first | assumption | omega | (simp only [szR, cq_len, cq_all, cxC_len, cxC_all, inC_len, inC_all, rnC_len, rnC_all, ouC_len, ouC_all, vwC_len, vwC_all, lvC_len, lvC_all, cpC_len, cpC_all] <;> omega) | rfl | decide) only [gen0, gen1, gen2, rulesC, rulesX, rulesM, rulesJ, litR, bolR, Nat.reduceAdd, Nat.reduceLeDiff, numR, memR, valR, heapR, updR, intR, decR, extR, slR, segR, thenR, pnR, Int.reduceToNat, Int.reduceAdd, Int.reduceSub, Int.reduceLT, Int.reduceLE, Nat.reduceSub, Nat.reduceMul, Nat.reduceEqDiff, hdd]
    exact pjAddr_spec (a := a) (b := a) ha ha fun w6 hx6 => okX.mk hx6 rfl
  intro v w7 hR hdd _
  replace g0 := hR.at g0 (by simp)
  replace g1 := hR.at g1 (by simp)
  replace g2 := hR.at g2 (by simp)
  replace hxa := hxa.trans hR (by simp)
  have lk0 := lt_of_at g0
  simp (disch := first | assumption | omega | (simp only [szR, cq_len, cq_all, cxC_len, cxC_all, inC_len, inC_all, rnC_len, rnC_all, ouC_len, ouC_all, vwC_len, vwC_all, lvC_len, lvC_all, cpC_len, cpC_all] <;> omega) | rfl | decide) only [gen0, gen1, gen2, rulesC, rulesX, rulesM, rulesJ, litR, bolR, Nat.reduceAdd, Nat.reduceLeDiff, numR, memR, valR, heapR, updR, intR, decR, extR, slR, segR, thenR, pnR, Int.reduceToNat, Int.reduceAdd, Int.reduceSub, Int.reduceLT, Int.reduceLE, Nat.reduceSub, Nat.reduceMul, Nat.reduceEqDiff, hdd, g0, rn_setp]
  have m0 : (World.upd w7 q (rnC { r with c := setX r.c 32 ⟨true, pjM, a⟩ })).heap[q]? = some (.cells (rnC { r with c := setX r.c 32 ⟨true, pjM, a⟩ }).toArray 91 (0, 0)) := upd_at g0
  have hxu : Ext [q] w7 (World.upd w7 q (rnC { r with c := setX r.c 32 ⟨true, pjM, a⟩ })) := by (repeat first | assumption | exact Ext.refl | apply Ext.alloc | apply Ext.drew | (refine Ext.updN ?_ ?_; (focus first | omega | (simp only [szR] <;> omega))) | (refine Ext.updI ?_ ?_; (focus (simp; done))))
  have m1 := hxu.at g1 (by simp; omega)
  have m2 := hxu.at g2 (by simp; omega)
  have hxq : Ext [q] w (World.upd w7 q (rnC { r with c := setX r.c 32 ⟨true, pjM, a⟩ })) := (hxa.mono (by simp)).step hxu
  generalize World.upd w7 q (rnC { r with c := setX r.c 32 ⟨true, pjM, a⟩ }) = w6 at *
  have er := rn_d { r with c := setX r.c 32 ⟨true, pjM, a⟩ }
  apply hJ6
  intro _
  simp (disch := first | assumption | omega | (simp only [szR, cq_len, cq_all, cxC_len, cxC_all, inC_len, inC_all, rnC_len, rnC_all, ouC_len, ouC_all, vwC_len, vwC_all, lvC_len, lvC_all, cpC_len, cpC_all] <;> omega) | rfl | decide) only [gen0, gen1, gen2, rulesC, rulesX, rulesM, rulesJ, litR, bolR, Nat.reduceAdd, Nat.reduceLeDiff, numR, memR, valR, heapR, updR, intR, decR, extR, slR, segR, thenR, pnR, Int.reduceToNat, Int.reduceAdd, Int.reduceSub, Int.reduceLT, Int.reduceLE, Nat.reduceSub, Nat.reduceMul, Nat.reduceEqDiff, m0, er]
  refine Next_spec (c := r.d) (by rw [hd]; show pjM < _; decide) (by rw [hd]; show b < _; omega) fun w8 hx7 => ?_
  rw [pj_next hd hb]
  have hpc : (setX r.d 32 ⟨true, pjM, b + 4⟩) 32 = ⟨true, pjM, b + 4⟩ := rfl
  have hfl := field_pcc (setX r.d 32 ⟨true, pjM, b + 4⟩)
  rw [hpc] at hfl
  simp (disch := first | assumption | omega | (simp only [szR, cq_len, cq_all, cxC_len, cxC_all, inC_len, inC_all, rnC_len, rnC_all, ouC_len, ouC_all, vwC_len, vwC_all, lvC_len, lvC_all, cpC_len, cpC_all] <;> omega) | rfl | decide) only [gen0, gen1, gen2, rulesC, rulesX, rulesM, rulesJ, litR, bolR, Nat.reduceAdd, Nat.reduceLeDiff, numR, memR, valR, heapR, updR, intR, decR, extR, slR, segR, thenR, pnR, Int.reduceToNat, Int.reduceAdd, Int.reduceSub, Int.reduceLT, Int.reduceLE, Nat.reduceSub, Nat.reduceMul, Nat.reduceEqDiff, hfl]
  refine Enter_spec (a := b + 4) (by omega) fun w9 hx8 => ?_
  have hxc := hx7.trans hx8 (by simp)
  replace m0 := hxc.at m0 (by simp)
  replace m1 := hxc.at m1 (by simp)
  replace m2 := hxc.at m2 (by simp)
  simp (disch := first | assumption | omega | (simp only [szR, cq_len, cq_all, cxC_len, cxC_all, inC_len, inC_all, rnC_len, rnC_all, ouC_len, ouC_all, vwC_len, vwC_all, lvC_len, lvC_all, cpC_len, cpC_all] <;> omega) | rfl | decide) only [gen0, gen1, gen2, rulesC, rulesX, rulesM, rulesJ, litR, bolR, Nat.reduceAdd, Nat.reduceLeDiff, numR, memR, valR, heapR, updR, intR, decR, extR, slR, segR, thenR, pnR, Int.reduceToNat, Int.reduceAdd, Int.reduceSub, Int.reduceLT, Int.reduceLE, Nat.reduceSub, Nat.reduceMul, Nat.reduceEqDiff]
  refine tell_spec (x := ⟨true, seM, b + 4⟩) m0 hrd fun w10 hx9 => ?_
  replace m1 := hx9.at m1 (by simp; omega)
  replace m2 := hx9.at m2 (by simp; omega)
  have lm1 := lt_of_at m1
  have lm2 := lt_of_at m2
  have hxe : Ext [q] w w10 := (hxq.step (hxc.mono (by simp))).step hx9
  simp (disch := first | assumption | omega | (simp only [szR, cq_len, cq_all, cxC_len, cxC_all, inC_len, inC_all, rnC_len, rnC_all, ouC_len, ouC_all, vwC_len, vwC_all, lvC_len, lvC_all, cpC_len, cpC_all] <;> omega) | rfl | decide) only [gen0, gen1, gen2, rulesC, rulesX, rulesM, rulesJ, litR, bolR, Nat.reduceAdd, Nat.reduceLeDiff, numR, memR, valR, heapR, updR, intR, decR, extR, slR, segR, thenR, pnR, Int.reduceToNat, Int.reduceAdd, Int.reduceSub, Int.reduceLT, Int.reduceLE, Nat.reduceSub, Nat.reduceMul, Nat.reduceEqDiff, m1, m2, cx_over, cx_put, ou_over, ou_put, cx_sub, ou_sub]
  generalize withX (setX r.c 32 ⟨true, pjM, a⟩) r.i.rd ⟨true, seM, b + 4⟩ = d at *
  have hxo : Ext [w.heap.size, w.heap.size + 1] w10 (World.upd (World.upd w10 w.heap.size (cxC d)) (w.heap.size + 1) (ouC 0 0 0 r.i)) := by (repeat first | assumption | exact Ext.refl | apply Ext.alloc | apply Ext.drew | (refine Ext.updN ?_ ?_; (focus first | omega | (simp only [szR] <;> omega))) | (refine Ext.updI ?_ ?_; (focus (simp; done))))
  exact hK _ (hxe.trans hxo (by simp))
theorem runJalr_spec {w : World} {q k e va : Nat} {r : Rn} {d : Nat → Cq} {S : List Nat} (hr : w.heap[q]? = some (.cells (rnC r).toArray 91 (0, 0))) (ho : r.i.op = 4) (hS : ∀ k ∈ S, k < w.heap.size)
    (hm : ∀ (w1 : World) (K : Value → World → Prop), Ext [] w w1 → (∀ w2, Ext S w1 w2 → K (.tuple #[.agg (cxC d).toArray, .agg (ouC k e va r.i).toArray]) w2) → callsK Tryz.prog 76 #[.pointer (some ⟨q, 0, none⟩)] w1 K)
    {K : Value → World → Prop} (hK : ∀ w', Ext S w w' → K (.tuple #[.agg (cxC d).toArray, .agg (ouC k e va r.i).toArray]) w') : callsK Tryz.prog 32 #[.pointer (some ⟨q, 0, none⟩)] w K := by
  apply F32_ok
  unfold F32
  have l0 := lt_of_at hr
  have eop := rn_op r
  rw [ho] at eop
  have hx0 := two_x w
  have g1 := two_1 w
  have g2 := two_2 w
  have g0 := hx0.at hr (by simp)
  simp (disch := first | assumption | omega | (simp only [szR, cq_len, cq_all, cxC_len, cxC_all, inC_len, inC_all, rnC_len, rnC_all, ouC_len, ouC_all, vwC_len, vwC_all, lvC_len, lvC_all, cpC_len, cpC_all] <;> omega) | rfl | decide) only [gen0, gen1, gen2, rulesC, rulesX, rulesM, rulesJ, litR, bolR, Nat.reduceAdd, Nat.reduceLeDiff, numR, memR, valR, heapR, updR, intR, decR, extR, slR, segR, thenR, pnR, Int.reduceToNat, Int.reduceAdd, Int.reduceSub, Int.reduceLT, Int.reduceLE, Nat.reduceSub, Nat.reduceMul, Nat.reduceEqDiff, zeroX_cells]
  simp (disch := first | assumption | omega | (simp only [szR, cq_len, cq_all, cxC_len, cxC_all, inC_len, inC_all, rnC_len, rnC_all, ouC_len, ouC_all, vwC_len, vwC_all, lvC_len, lvC_all, cpC_len, cpC_all] <;> omega) | rfl | decide) only [gen0, gen1, gen2, rulesC, rulesX, rulesM, rulesJ, litR, bolR, Nat.reduceAdd, Nat.reduceLeDiff, numR, memR, valR, heapR, updR, intR, decR, extR, slR, segR, thenR, pnR, Int.reduceToNat, Int.reduceAdd, Int.reduceSub, Int.reduceLT, Int.reduceLE, Nat.reduceSub, Nat.reduceMul, Nat.reduceEqDiff, hr, eop]
  refine branches_spec (n := 4) (by omega) ?_
  rw [decide_eq_false (by omega)]
  simp (disch := first | assumption | omega | (simp only [szR, cq_len, cq_all, cxC_len, cxC_all, inC_len, inC_all, rnC_len, rnC_all, ouC_len, ouC_all, vwC_len, vwC_all, lvC_len, lvC_all, cpC_len, cpC_all] <;> omega) | rfl | decide) only [gen0, gen1, gen2, rulesC, rulesX, rulesM, rulesJ, litR, bolR, Nat.reduceAdd, Nat.reduceLeDiff, numR, memR, valR, heapR, updR, intR, decR, extR, slR, segR, thenR, pnR, Int.reduceToNat, Int.reduceAdd, Int.reduceSub, Int.reduceLT, Int.reduceLE, Nat.reduceSub, Nat.reduceMul, Nat.reduceEqDiff]
  refine width3_spec (n := 4) (by omega) fun w2 hx2 => ?_
  have hx5 := hx0.trans hx2 (by simp)
  simp (disch := first | assumption | omega | (simp only [szR, cq_len, cq_all, cxC_len, cxC_all, inC_len, inC_all, rnC_len, rnC_all, ouC_len, ouC_all, vwC_len, vwC_all, lvC_len, lvC_all, cpC_len, cpC_all] <;> omega) | rfl | decide) only [gen0, gen1, gen2, rulesC, rulesX, rulesM, rulesJ, litR, bolR, Nat.reduceAdd, Nat.reduceLeDiff, numR, memR, valR, heapR, updR, intR, decR, extR, slR, segR, thenR, pnR, Int.reduceToNat, Int.reduceAdd, Int.reduceSub, Int.reduceLT, Int.reduceLE, Nat.reduceSub, Nat.reduceMul, Nat.reduceEqDiff]
  refine hm w2 _ hx5 fun w6 hx6 => ?_
  have k1 := hx6.at (hx2.at g1 (by simp)) (fun hc => by have := hS _ hc; omega)
  have k2 := hx6.at (hx2.at g2 (by simp)) (fun hc => by have := hS _ hc; omega)
  have lk1 := lt_of_at k1
  have lk2 := lt_of_at k2
  simp (disch := first | assumption | omega | (simp only [szR, cq_len, cq_all, cxC_len, cxC_all, inC_len, inC_all, rnC_len, rnC_all, ouC_len, ouC_all, vwC_len, vwC_all, lvC_len, lvC_all, cpC_len, cpC_all] <;> omega) | rfl | decide) only [gen0, gen1, gen2, rulesC, rulesX, rulesM, rulesJ, litR, bolR, Nat.reduceAdd, Nat.reduceLeDiff, numR, memR, valR, heapR, updR, intR, decR, extR, slR, segR, thenR, pnR, Int.reduceToNat, Int.reduceAdd, Int.reduceSub, Int.reduceLT, Int.reduceLE, Nat.reduceSub, Nat.reduceMul, Nat.reduceEqDiff, k1, k2, cx_over, cx_put, ou_over, ou_put, cx_sub, ou_sub]
  have hxo : Ext [w.heap.size, w.heap.size + 1] w6 (World.upd (World.upd w6 w.heap.size (cxC d)) (w.heap.size + 1) (ouC k e va r.i)) := by (repeat first | assumption | exact Ext.refl | apply Ext.alloc | apply Ext.drew | (refine Ext.updN ?_ ?_; (focus first | omega | (simp only [szR] <;> omega))) | (refine Ext.updI ?_ ?_; (focus (simp; done))))
  exact hK _ (((hx5.mono (by simp)).step hx6).trans hxo (by simp))
end Go.Proofs.YtplfniijbeinmaaGreat
