/- Jumps: what is jumped to, and what is told of where to come back; conditions: those of each theorem. -/
import Derived.Test.YtplfniijbeinmaaGreatStep3
import Derived.Test.YtplfniijbeinmaaGreatFJ
import Derived.Test.YtplfniijbeinmaaGreatRJ
namespace Go.Proofs.YtplfniijbeinmaaGreat
open Go.Fx
set_option maxRecDepth 100000
set_option linter.unusedSimpArgs false
set_option linter.unusedVariables false
/-- the capability of a program that may jump, and the one that is told. -/
def pjM : Nat := 21477457920
def seM : Nat := 281496454168576
theorem pj_sp {a : Nat} (h : a ≤ 160) : spM pjM a = some (0, 160) := by
  unfold spM spn
  rw [show pjM % 16384 = 0 from by kernel_rfl, show pjM / 16384 % 4096 = 160 from by kernel_rfl, show pjM / 67108864 % 64 = 0 from by kernel_rfl]
  rw [show (0 : Nat) - 1 = 0 by omega, Nat.pow_zero, Nat.div_one, Nat.div_one]
  rw [if_neg (by omega), if_neg (by omega), if_neg (by simp <;> omega), Nat.mul_one, Nat.mul_one]
  congr 2 <;> first | omega | (simp <;> omega)
theorem se_sp {a : Nat} (h : a ≤ 160) : spM seM a = some (0, 160) := by
  have e : spM seM a = spM pjM a := by
    unfold spM
    rw [show seM % 16384 = pjM % 16384 from by kernel_rfl, show seM / 16384 % 4096 = pjM / 16384 % 4096 from by kernel_rfl, show seM / 67108864 % 64 = pjM / 67108864 % 64 from by kernel_rfl]
  rw [e, pj_sp h]
theorem pj_right {a : Nat} (h : a ≤ 160) : rightM pjM a = true := by
  unfold rightM
  rw [pj_sp h]
  kernel_rfl
theorem se_right {a : Nat} (h : a ≤ 160) : rightM seM a = true := by
  unfold rightM
  rw [se_sp h]
  kernel_rfl
theorem pj_open {a : Nat} (h : a ≤ 160) : openM true pjM a = true := by
  unfold openM
  rw [pj_right h]
  kernel_rfl
theorem pj_move {a b : Nat} (h : a ≤ 160) (hb : b ≤ 160) : moveT true pjM a b = true := by
  unfold moveT
  rw [pj_open h, pj_sp h, pj_sp hb]
  kernel_rfl
theorem pj_chk {a n : Nat} (h : a + n ≤ 160) : chkN true pjM a 0 n = 0 := by
  unfold chkN
  rw [pj_open (by omega), pj_right (by omega), pj_sp (by omega)]
  rw [if_neg (by simp), if_neg (by simp), if_neg (by rw [show pwN (needN 0) (pjM / 4294967296 % 512) = true from by kernel_rfl]; simp), if_pos ⟨Nat.zero_le _, by show a + n ≤ 160; omega⟩]
theorem pj_lim {a : Nat} (h : a ≤ 160) : spB (spM pjM a) < 18446744073709551616 ∧ spT (spM pjM a) < 18446744073709551616 := by
  rw [pj_sp h]
  decide
theorem lv_0 (t : Bool) (m a : Nat) : sub (lvC t m a) 0 3 = cq ⟨t, m, a⟩ := rfl
theorem lv_1 (t : Bool) (m a : Nat) : (lvC t m a)[1]? = some (.int .u64 (m : Nat)) := rfl
theorem lv_5 (t : Bool) (m a : Nat) : (lvC t m a)[5]? = some (.int .u64 (m / 4294967296 % 512 : Nat)) := rfl
theorem lv_6 (t : Bool) (m a : Nat) : (lvC t m a)[6]? = some (.int .u64 (m / 281474976710656 % 4096 : Nat)) := rfl
theorem lv_7 (t : Bool) (m a : Nat) : (lvC t m a)[7]? = some (.bool (t && rightM m a)) := rfl
theorem typed_spec {w : World} {t : Bool} {m a k : Nat} (M : Nat) (hM : bitI .xor .u64 (m : Nat) (IntKind.u64.wrap (bitI .xor .u64 (m / 281474976710656 % 4096 : Nat) (k : Nat) * 2 ^ 48)) = (M : Nat)) {K : Value → World → Prop} (hK : ∀ w', Ext [] w w' → K (.agg (cq ⟨t, M, a⟩).toArray) w') : callsK Tryz.prog 46 #[.agg (lvC t m a).toArray, .bool true, .int .u64 (k : Nat)] w K := by
  apply F46_ok
  unfold F46
  have e6 := lv_6 t m a
  have e1 := lv_1 t m a
  have l3 : ∀ v, sub ((lvC t m a).set 1 (.int .u64 v)) 0 3 = [.bool t, .int .u64 v, .int .u64 (a : Nat)] := fun v => rfl
  have l4 : ∀ v, ((lvC t m a).set 1 (.int .u64 v)).length = 8 := fun v => rfl
  simp (disch := first | assumption | omega | (simp only [szR, cq_len, cq_all, cxC_len, cxC_all, inC_len, inC_all, rnC_len, rnC_all, ouC_len, ouC_all, vwC_len, vwC_all, lvC_len, lvC_all, cpC_len, cpC_all] <;> omega) | rfl | decide) only [gen0, gen1, gen2, rulesC, rulesX, rulesM, rulesJ, litR, bolR, Nat.reduceAdd, Nat.reduceLeDiff, numR, memR, valR, heapR, updR, intR, decR, extR, slR, segR, thenR, pnR, Int.reduceToNat, Int.reduceAdd, Int.reduceSub, Int.reduceLT, Int.reduceLE, Nat.reduceSub, Nat.reduceMul, Nat.reduceEqDiff, e6, e1, hM, lvC_sub, l3, l4, Bool.not_true]
  exact hK _ (by (repeat first | assumption | exact Ext.refl | apply Ext.alloc | apply Ext.drew | (refine Ext.updN ?_ ?_; (focus first | omega | (simp only [szR] <;> omega))) | (refine Ext.updI ?_ ?_; (focus (simp; done)))))
theorem Enter_spec {w : World} {a : Nat} (ha : a ≤ 160) {K : Value → World → Prop} (hK : ∀ w', Ext [] w w' → K (.agg (cq ⟨true, seM, a⟩).toArray) w') : callsK Tryz.prog 75 #[.agg (cq ⟨true, pjM, a⟩).toArray] w K := by
  apply F75_ok
  unfold F75
  simp (disch := first | assumption | omega | (simp only [szR, cq_len, cq_all, cxC_len, cxC_all, inC_len, inC_all, rnC_len, rnC_all, ouC_len, ouC_all, vwC_len, vwC_all, lvC_len, lvC_all, cpC_len, cpC_all] <;> omega) | rfl | decide) only [gen0, gen1, gen2, rulesC, rulesX, rulesM, rulesJ, litR, bolR, Nat.reduceAdd, Nat.reduceLeDiff, numR, memR, valR, heapR, updR, intR, decR, extR, slR, segR, thenR, pnR, Int.reduceToNat, Int.reduceAdd, Int.reduceSub, Int.reduceLT, Int.reduceLE, Nat.reduceSub, Nat.reduceMul, Nat.reduceEqDiff, cq_sub]
  have hx0 : Ext [] w ((w.alloc (.cells (cq ⟨true, pjM, a⟩).toArray 24)).alloc (.cells [.bool false, .int .u64 0, .int .u64 0].toArray 24)) := by (repeat first | assumption | exact Ext.refl | apply Ext.alloc | apply Ext.drew | (refine Ext.updN ?_ ?_; (focus first | omega | (simp only [szR] <;> omega))) | (refine Ext.updI ?_ ?_; (focus (simp; done))))
  have g1 : ((w.alloc (.cells (cq ⟨true, pjM, a⟩).toArray 24)).alloc (.cells [.bool false, .int .u64 0, .int .u64 0].toArray 24)).heap[w.heap.size + 1]? = some (.cells [.bool false, .int .u64 0, .int .u64 0].toArray 24 (0, 0)) := alloc_at (by simp only [szR])
  refine of_spec (t := true) (m := pjM) (a := a) (by decide) (by omega) fun w1 hx1 => ?_
  have hxa := hx0.trans hx1 (by simp)
  replace g1 := hx1.at g1 (by simp)
  have lg1 := lt_of_at g1
  simp (disch := first | assumption | omega | (simp only [szR, cq_len, cq_all, cxC_len, cxC_all, inC_len, inC_all, rnC_len, rnC_all, ouC_len, ouC_all, vwC_len, vwC_all, lvC_len, lvC_all, cpC_len, cpC_all] <;> omega) | rfl | decide) only [gen0, gen1, gen2, rulesC, rulesX, rulesM, rulesJ, litR, bolR, Nat.reduceAdd, Nat.reduceLeDiff, numR, memR, valR, heapR, updR, intR, decR, extR, slR, segR, thenR, pnR, Int.reduceToNat, Int.reduceAdd, Int.reduceSub, Int.reduceLT, Int.reduceLE, Nat.reduceSub, Nat.reduceMul, Nat.reduceEqDiff, lv_over, lv_over2]
  have hx2 : Ext [] w1 (w1.alloc (.cells (lvC true pjM a).toArray 121)).drew := by (repeat first | assumption | exact Ext.refl | apply Ext.alloc | apply Ext.drew | (refine Ext.updN ?_ ?_; (focus first | omega | (simp only [szR] <;> omega))) | (refine Ext.updI ?_ ?_; (focus (simp; done))))
  have g3 : (w1.alloc (.cells (lvC true pjM a).toArray 121)).drew.heap[w1.heap.size]? = some (.cells (lvC true pjM a).toArray 121 (0, 0)) := alloc_at rfl
  replace g1 := hx2.at g1 (by simp)
  replace hxa := hxa.trans hx2 (by simp)
  generalize w1.heap.size = b3 at *
  generalize (w1.alloc (.cells (lvC true pjM a).toArray 121)).drew = w2 at *
  have l5 := lv_5 true pjM a
  have h5 : pwN 4 (pjM / 4294967296 % 512) = true := by kernel_rfl
  refine relX.ext [] ?_
  (repeat (apply postX.is; (focus (intro v w2 hR hd; have e0 := hR.at g3 (by simp); (try simp (disch := first | assumption | omega | (simp only [szR, cq_len, cq_all, cxC_len, cxC_all, inC_len, inC_all, rnC_len, rnC_all, ouC_len, ouC_all, vwC_len, vwC_all, lvC_len, lvC_all, cpC_len, cpC_all] <;> omega) | rfl | decide) only [gen0, gen1, gen2, rulesC, rulesX, rulesM, rulesJ, litR, bolR, Nat.reduceAdd, Nat.reduceLeDiff, numR, memR, valR, heapR, updR, intR, decR, extR, slR, segR, thenR, pnR, Int.reduceToNat, Int.reduceAdd, Int.reduceSub, Int.reduceLT, Int.reduceLE, Nat.reduceSub, Nat.reduceMul, Nat.reduceEqDiff, hd, e0, lvC_sub]); exact okX.is))))
  apply postX.is
  · intro v w5 hR hd
    simp (disch := first | assumption | omega | (simp only [szR, cq_len, cq_all, cxC_len, cxC_all, inC_len, inC_all, rnC_len, rnC_all, ouC_len, ouC_all, vwC_len, vwC_all, lvC_len, lvC_all, cpC_len, cpC_all] <;> omega) | rfl | decide) only [gen0, gen1, gen2, rulesC, rulesX, rulesM, rulesJ, litR, bolR, Nat.reduceAdd, Nat.reduceLeDiff, numR, memR, valR, heapR, updR, intR, decR, extR, slR, segR, thenR, pnR, Int.reduceToNat, Int.reduceAdd, Int.reduceSub, Int.reduceLT, Int.reduceLE, Nat.reduceSub, Nat.reduceMul, Nat.reduceEqDiff, hd]
    exact open_spec (t := true) (m := pjM) (a := a) fun w6 hx6 => okX.mk hx6 (by rw [pj_open ha])
  (repeat (apply postX.is; (focus (intro v w2 hR hd; have e0 := hR.at g3 (by simp); (try simp (disch := first | assumption | omega | (simp only [szR, cq_len, cq_all, cxC_len, cxC_all, inC_len, inC_all, rnC_len, rnC_all, ouC_len, ouC_all, vwC_len, vwC_all, lvC_len, lvC_all, cpC_len, cpC_all] <;> omega) | rfl | decide) only [gen0, gen1, gen2, rulesC, rulesX, rulesM, rulesJ, litR, bolR, Nat.reduceAdd, Nat.reduceLeDiff, numR, memR, valR, heapR, updR, intR, decR, extR, slR, segR, thenR, pnR, Int.reduceToNat, Int.reduceAdd, Int.reduceSub, Int.reduceLT, Int.reduceLE, Nat.reduceSub, Nat.reduceMul, Nat.reduceEqDiff, hd, e0, lvC_sub, l5]); exact okX.is))))
  apply postX.is
  · intro v w5 hR hd
    simp (disch := first | assumption | omega | (simp only [szR, cq_len, cq_all, cxC_len, cxC_all, inC_len, inC_all, rnC_len, rnC_all, ouC_len, ouC_all, vwC_len, vwC_all, lvC_len, lvC_all, cpC_len, cpC_all] <;> omega) | rfl | decide) only [gen0, gen1, gen2, rulesC, rulesX, rulesM, rulesJ, litR, bolR, Nat.reduceAdd, Nat.reduceLeDiff, numR, memR, valR, heapR, updR, intR, decR, extR, slR, segR, thenR, pnR, Int.reduceToNat, Int.reduceAdd, Int.reduceSub, Int.reduceLT, Int.reduceLE, Nat.reduceSub, Nat.reduceMul, Nat.reduceEqDiff, hd]
    exact pw_spec (p := 4) (q := pjM / 4294967296 % 512) (by decide) (by decide) (okX.mk Ext.refl (by rw [h5]))
  (repeat (apply postX.is; (focus (intro v w2 hR hd; (try simp (disch := first | assumption | omega | (simp only [szR, cq_len, cq_all, cxC_len, cxC_all, inC_len, inC_all, rnC_len, rnC_all, ouC_len, ouC_all, vwC_len, vwC_all, lvC_len, lvC_all, cpC_len, cpC_all] <;> omega) | rfl | decide) only [gen0, gen1, gen2, rulesC, rulesX, rulesM, rulesJ, litR, bolR, Nat.reduceAdd, Nat.reduceLeDiff, numR, memR, valR, heapR, updR, intR, decR, extR, slR, segR, thenR, pnR, Int.reduceToNat, Int.reduceAdd, Int.reduceSub, Int.reduceLT, Int.reduceLE, Nat.reduceSub, Nat.reduceMul, Nat.reduceEqDiff, hd, if_true]); exact okX.is))))
  intro v w5 hR hd _
  simp (disch := first | assumption | omega | (simp only [szR, cq_len, cq_all, cxC_len, cxC_all, inC_len, inC_all, rnC_len, rnC_all, ouC_len, ouC_all, vwC_len, vwC_all, lvC_len, lvC_all, cpC_len, cpC_all] <;> omega) | rfl | decide) only [gen0, gen1, gen2, rulesC, rulesX, rulesM, rulesJ, litR, bolR, Nat.reduceAdd, Nat.reduceLeDiff, numR, memR, valR, heapR, updR, intR, decR, extR, slR, segR, thenR, pnR, Int.reduceToNat, Int.reduceAdd, Int.reduceSub, Int.reduceLT, Int.reduceLE, Nat.reduceSub, Nat.reduceMul, Nat.reduceEqDiff, hd]
  refine typed_spec (t := true) (m := pjM) (a := a) (k := 1) seM (by kernel_rfl) fun w6 hx6 => ?_
  replace g1 := (hR.trans hx6 (by simp)).at g1 (by simp)
  have lg2 := lt_of_at g1
  have hxz := (hxa.trans hR (by simp)).trans hx6 (by simp)
  simp (disch := first | assumption | omega | (simp only [szR, cq_len, cq_all, cxC_len, cxC_all, inC_len, inC_all, rnC_len, rnC_all, ouC_len, ouC_all, vwC_len, vwC_all, lvC_len, lvC_all, cpC_len, cpC_all] <;> omega) | rfl | decide) only [gen0, gen1, gen2, rulesC, rulesX, rulesM, rulesJ, litR, bolR, Nat.reduceAdd, Nat.reduceLeDiff, numR, memR, valR, heapR, updR, intR, decR, extR, slR, segR, thenR, pnR, Int.reduceToNat, Int.reduceAdd, Int.reduceSub, Int.reduceLT, Int.reduceLE, Nat.reduceSub, Nat.reduceMul, Nat.reduceEqDiff, g1, cq_over0, cq_put, cq_sub]
  exact hK _ (by (repeat first | assumption | exact Ext.refl | apply Ext.alloc | apply Ext.drew | (refine Ext.updN ?_ ?_; (focus first | omega | (simp only [szR] <;> omega))) | (refine Ext.updI ?_ ?_; (focus (simp; done)))))
theorem Open_spec {w : World} {a : Nat} (ha : a ≤ 160) {K : Value → World → Prop} (hK : ∀ w', Ext [] w w' → K (.agg (cq ⟨true, pjM, a⟩).toArray) w') : callsK Tryz.prog 17 #[.agg (cq ⟨true, seM, a⟩).toArray] w K := by
  apply F17_ok
  unfold F17
  simp (disch := first | assumption | omega | (simp only [szR, cq_len, cq_all, cxC_len, cxC_all, inC_len, inC_all, rnC_len, rnC_all, ouC_len, ouC_all, vwC_len, vwC_all, lvC_len, lvC_all, cpC_len, cpC_all] <;> omega) | rfl | decide) only [gen0, gen1, gen2, rulesC, rulesX, rulesM, rulesJ, litR, bolR, Nat.reduceAdd, Nat.reduceLeDiff, numR, memR, valR, heapR, updR, intR, decR, extR, slR, segR, thenR, pnR, Int.reduceToNat, Int.reduceAdd, Int.reduceSub, Int.reduceLT, Int.reduceLE, Nat.reduceSub, Nat.reduceMul, Nat.reduceEqDiff, cq_sub]
  have hx0 : Ext [] w ((w.alloc (.cells (cq ⟨true, seM, a⟩).toArray 24)).alloc (.cells [.bool false, .int .u64 0, .int .u64 0].toArray 24)) := by (repeat first | assumption | exact Ext.refl | apply Ext.alloc | apply Ext.drew | (refine Ext.updN ?_ ?_; (focus first | omega | (simp only [szR] <;> omega))) | (refine Ext.updI ?_ ?_; (focus (simp; done))))
  have g1 : ((w.alloc (.cells (cq ⟨true, seM, a⟩).toArray 24)).alloc (.cells [.bool false, .int .u64 0, .int .u64 0].toArray 24)).heap[w.heap.size + 1]? = some (.cells [.bool false, .int .u64 0, .int .u64 0].toArray 24 (0, 0)) := alloc_at (by simp only [szR])
  refine of_spec (t := true) (m := seM) (a := a) (by decide) (by omega) fun w1 hx1 => ?_
  have hxa := hx0.trans hx1 (by simp)
  replace g1 := hx1.at g1 (by simp)
  have lg1 := lt_of_at g1
  have l6 := lv_6 true seM a
  have l7 := lv_7 true seM a
  rw [se_right ha] at l7
  have e6 : ((seM / 281474976710656 % 4096 : Nat) : Int) = 1 := by kernel_rfl
  rw [e6] at l6
  simp (disch := first | assumption | omega | (simp only [szR, cq_len, cq_all, cxC_len, cxC_all, inC_len, inC_all, rnC_len, rnC_all, ouC_len, ouC_all, vwC_len, vwC_all, lvC_len, lvC_all, cpC_len, cpC_all] <;> omega) | rfl | decide) only [gen0, gen1, gen2, rulesC, rulesX, rulesM, rulesJ, litR, bolR, Nat.reduceAdd, Nat.reduceLeDiff, numR, memR, valR, heapR, updR, intR, decR, extR, slR, segR, thenR, pnR, Int.reduceToNat, Int.reduceAdd, Int.reduceSub, Int.reduceLT, Int.reduceLE, Nat.reduceSub, Nat.reduceMul, Nat.reduceEqDiff, joinBR, lv_over, lv_over2, l6, l7, Bool.not_true, Bool.and_self, if_true, lvC_sub]
  refine typed_spec (t := true) (m := seM) (a := a) (k := 0) pjM (by kernel_rfl) fun w6 hx6 => ?_
  have hx2 : Ext [] w1 w6 := Ext.trans (S := []) (by (repeat first | assumption | exact Ext.refl | apply Ext.alloc | apply Ext.drew | (refine Ext.updN ?_ ?_; (focus first | omega | (simp only [szR] <;> omega))) | (refine Ext.updI ?_ ?_; (focus (simp; done))))) hx6 (by simp)
  replace g1 := hx2.at g1 (by simp)
  have lg2 := lt_of_at g1
  have hxz := hxa.trans hx2 (by simp)
  simp (disch := first | assumption | omega | (simp only [szR, cq_len, cq_all, cxC_len, cxC_all, inC_len, inC_all, rnC_len, rnC_all, ouC_len, ouC_all, vwC_len, vwC_all, lvC_len, lvC_all, cpC_len, cpC_all] <;> omega) | rfl | decide) only [gen0, gen1, gen2, rulesC, rulesX, rulesM, rulesJ, litR, bolR, Nat.reduceAdd, Nat.reduceLeDiff, numR, memR, valR, heapR, updR, intR, decR, extR, slR, segR, thenR, pnR, Int.reduceToNat, Int.reduceAdd, Int.reduceSub, Int.reduceLT, Int.reduceLE, Nat.reduceSub, Nat.reduceMul, Nat.reduceEqDiff, g1, cq_over0, cq_put, cq_sub]
  exact hK _ (by (repeat first | assumption | exact Ext.refl | apply Ext.alloc | apply Ext.drew | (refine Ext.updN ?_ ?_; (focus first | omega | (simp only [szR] <;> omega))) | (refine Ext.updI ?_ ?_; (focus (simp; done)))))
theorem pjMove_spec {w : World} {a b : Nat} {d : Int} (ha : a ≤ 160) (hb : b ≤ 160) (hd : IntKind.u64.wrap ((a : Int) + d) = (b : Int)) {K : Value → World → Prop} (hK : ∀ w', Ext [] w w' → K (.agg (cq ⟨true, pjM, b⟩).toArray) w') : callsK Tryz.prog 16 #[.agg (cq ⟨true, pjM, a⟩).toArray, .int .u64 d] w K := by
  refine Move_spec (t := true) (m := pjM) (a := a) (b := b) (by decide) (by omega) (by omega) hd fun w' hx => ?_
  rw [pj_move ha hb]
  exact hK w' hx
theorem pjAddr_spec {w : World} {a b : Nat} (ha : a ≤ 160) (hb : b ≤ 160) {K : Value → World → Prop} (hK : ∀ w', Ext [] w w' → K (.agg (cq ⟨true, pjM, b⟩).toArray) w') : callsK Tryz.prog 44 #[.agg (cq ⟨true, pjM, a⟩).toArray, .int .u64 (b : Nat)] w K := by
  refine Address_spec (t := true) (m := pjM) (a := a) (b := b) (by decide) (by omega) (by omega) fun w' hx => ?_
  rw [pj_move ha hb]
  exact hK w' hx
theorem pjLook_spec {w : World} {a : Nat} (ha : a ≤ 160) {K : Value → World → Prop} (hK : ∀ w', Ext [] w w' → K (.tuple #[.agg (vwC seM a).toArray, .bool true]) w') : callsK Tryz.prog 15 #[.agg (cq ⟨true, seM, a⟩).toArray] w K := by
  refine Look_spec (t := true) (m := seM) (a := a) (by decide) (by omega) fun w' hx => ?_
  rw [se_sp ha]
  exact hK w' hx
theorem pj_next {c : Nat → Cq} {a : Nat} (hc : c 32 = ⟨true, pjM, a⟩) (h : a + 4 ≤ 160) : nextX c = setX c 32 ⟨true, pjM, a + 4⟩ := by
  unfold nextX
  rw [hc]
  have e : (a + 4) % 18446744073709551616 = a + 4 := Nat.mod_eq_of_lt (by omega)
  show setX c 32 ⟨moveT true pjM a ((a + 4) % 18446744073709551616), pjM, (a + 4) % 18446744073709551616⟩ = _
  rw [e, pj_move (by omega) (by omega)]
end Go.Proofs.YtplfniijbeinmaaGreat
