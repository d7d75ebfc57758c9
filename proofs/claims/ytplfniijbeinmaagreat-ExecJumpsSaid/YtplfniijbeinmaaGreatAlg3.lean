/- Capabilities: what they tell, whether they are open, and may be used; conditions: those of each theorem. -/
import Derived.Test.YtplfniijbeinmaaGreatAlg2
import Derived.Laws.Externs
namespace Go.Proofs.YtplfniijbeinmaaGreat
open Go.Fx
set_option maxRecDepth 100000
set_option linter.unusedSimpArgs false
set_option linter.unusedVariables false
/-- a capability, and what it tells. -/
def lvC (t : Bool) (m a : Nat) : List Value := cpC t m a ++ (vwC m a ++ [.bool (t && rightM m a)])
theorem lvC_len (t : Bool) (m a : Nat) : (lvC t m a).length = 8 := by simp [lvC, cpC, vwC]
theorem lvC_all (t : Bool) (m a : Nat) : (lvC t m a).all (fun v => v.oneCell') = true := by simp [lvC, cpC, vwC]; exact ⟨rfl, rfl, rfl, rfl, rfl, rfl, rfl, rfl⟩
theorem lvC_sub (t : Bool) (m a : Nat) : sub (lvC t m a) 0 8 = lvC t m a := rfl
def lvZ : List Value := [.bool false, .int .u64 0, .int .u64 0, .int .u64 0, .int .u64 0, .int .u64 0, .int .u64 0, .bool false]
theorem lv_over (t : Bool) (m a : Nat) : splice [.bool false, .int .u64 0, .int .u64 0, .int .u64 0, .int .u64 0, .int .u64 0, .int .u64 0, .bool false] 0 (lvC t m a) = lvC t m a := rfl
theorem lv_over2 (t : Bool) (m a : Nat) : lvC t m a ++ List.drop (lvC t m a).length [.bool false, .int .u64 0, .int .u64 0, .int .u64 0, .int .u64 0, .int .u64 0, .int .u64 0, .bool false] = lvC t m a := by simp [lvC, cpC, vwC]
theorem of_spec {w : World} {t : Bool} {m a : Nat} (hm : m < 18446744073709551616) (ha : a < 18446744073709551616) {K : Value → World → Prop} (hK : ∀ w', Ext [] w w' → K (.agg (lvC t m a).toArray) w') : callsK Tryz.prog 45 #[.agg (cpC t m a).toArray] w K := by
  apply F45_ok
  unfold F45
  simp (disch := first | assumption | omega | (simp only [szR, fdsC_len, fdsC_all, spC_len, spC_all, cpC_len, vwC_len, cpC_all, vwC_all, lvC_len, lvC_all] <;> omega) | rfl | decide) only [gen0, gen1, gen2, rulesC, rulesX, litR, bolR, Nat.reduceAdd, Nat.reduceLeDiff, numR, memR, valR, heapR, updR, intR, decR, extR, slR, segR, thenR, pnR, Int.reduceToNat, Int.reduceAdd, Int.reduceSub, Int.reduceLT, Int.reduceLE, Nat.reduceSub, Nat.reduceMul, Nat.reduceEqDiff, cpC_sub]
  refine Look_spec hm ha fun w1 hx1 => ?_
  have hxa : Ext [] w w1 := Ext.trans (by (repeat first | assumption | exact Ext.refl | apply Ext.alloc | apply Ext.drew | (refine Ext.updN ?_ ?_; (focus first | omega | (simp only [szR] <;> omega))) | (refine Ext.updI ?_ ?_; (focus (simp; done))))) hx1 (by simp)
  have h1 := hx1.at (b := w.heap.size) (o := .cells (cpC t m a).toArray 24 (0, 0)) (by first | with_reducible rfl | assumption | (simp (disch := first | assumption | omega | (simp only [szR, fdsC_len, fdsC_all, spC_len, spC_all, cpC_len, vwC_len, cpC_all, vwC_all, lvC_len, lvC_all] <;> omega) | rfl | decide) only [gen0, gen1, gen2, rulesC, rulesX, litR, bolR, Nat.reduceAdd, Nat.reduceLeDiff, numR, memR, valR, heapR, updR, intR, decR, extR, slR, segR, thenR, pnR, Int.reduceToNat, Int.reduceAdd, Int.reduceSub, Int.reduceLT, Int.reduceLE, Nat.reduceSub, Nat.reduceMul, Nat.reduceEqDiff] <;> rfl)) (by simp)
  have h2 := hx1.at (b := w.heap.size + 1) (o := .cells [.bool false, .int .u64 0, .int .u64 0, .int .u64 0, .int .u64 0, .int .u64 0, .int .u64 0, .bool false].toArray 121 (0, 0)) (by first | with_reducible rfl | assumption | (simp (disch := first | assumption | omega | (simp only [szR, fdsC_len, fdsC_all, spC_len, spC_all, cpC_len, vwC_len, cpC_all, vwC_all, lvC_len, lvC_all] <;> omega) | rfl | decide) only [gen0, gen1, gen2, rulesC, rulesX, litR, bolR, Nat.reduceAdd, Nat.reduceLeDiff, numR, memR, valR, heapR, updR, intR, decR, extR, slR, segR, thenR, pnR, Int.reduceToNat, Int.reduceAdd, Int.reduceSub, Int.reduceLT, Int.reduceLE, Nat.reduceSub, Nat.reduceMul, Nat.reduceEqDiff] <;> rfl)) (by simp)
  have l1 := lt_of_at h1
  have l2 := lt_of_at h2
  simp (disch := first | assumption | omega | (simp only [szR, fdsC_len, fdsC_all, spC_len, spC_all, cpC_len, vwC_len, cpC_all, vwC_all, lvC_len, lvC_all] <;> omega) | rfl | decide) only [gen0, gen1, gen2, rulesC, rulesX, litR, bolR, Nat.reduceAdd, Nat.reduceLeDiff, numR, memR, valR, heapR, updR, intR, decR, extR, slR, segR, thenR, pnR, Int.reduceToNat, Int.reduceAdd, Int.reduceSub, Int.reduceLT, Int.reduceLE, Nat.reduceSub, Nat.reduceMul, Nat.reduceEqDiff, vw_over, vw_over2]
  have hxb : Ext [] w (w1.alloc (.cells (vwC m a).toArray 28)).drew := by (repeat first | assumption | exact Ext.refl | apply Ext.alloc | apply Ext.drew | (refine Ext.updN ?_ ?_; (focus first | omega | (simp only [szR] <;> omega))) | (refine Ext.updI ?_ ?_; (focus (simp; done))))
  have g1 : (w1.alloc (.cells (vwC m a).toArray 28)).drew.heap[w.heap.size]? = some (.cells (cpC t m a).toArray 24 (0, 0)) := (by first | with_reducible rfl | assumption | (simp (disch := first | assumption | omega | (simp only [szR, fdsC_len, fdsC_all, spC_len, spC_all, cpC_len, vwC_len, cpC_all, vwC_all, lvC_len, lvC_all] <;> omega) | rfl | decide) only [gen0, gen1, gen2, rulesC, rulesX, litR, bolR, Nat.reduceAdd, Nat.reduceLeDiff, numR, memR, valR, heapR, updR, intR, decR, extR, slR, segR, thenR, pnR, Int.reduceToNat, Int.reduceAdd, Int.reduceSub, Int.reduceLT, Int.reduceLE, Nat.reduceSub, Nat.reduceMul, Nat.reduceEqDiff, h1] <;> rfl))
  have g2 : (w1.alloc (.cells (vwC m a).toArray 28)).drew.heap[w.heap.size + 1]? = some (.cells [.bool false, .int .u64 0, .int .u64 0, .int .u64 0, .int .u64 0, .int .u64 0, .int .u64 0, .bool false].toArray 121 (0, 0)) := (by first | with_reducible rfl | assumption | (simp (disch := first | assumption | omega | (simp only [szR, fdsC_len, fdsC_all, spC_len, spC_all, cpC_len, vwC_len, cpC_all, vwC_all, lvC_len, lvC_all] <;> omega) | rfl | decide) only [gen0, gen1, gen2, rulesC, rulesX, litR, bolR, Nat.reduceAdd, Nat.reduceLeDiff, numR, memR, valR, heapR, updR, intR, decR, extR, slR, segR, thenR, pnR, Int.reduceToNat, Int.reduceAdd, Int.reduceSub, Int.reduceLT, Int.reduceLE, Nat.reduceSub, Nat.reduceMul, Nat.reduceEqDiff, h2] <;> rfl))
  have g3 : (w1.alloc (.cells (vwC m a).toArray 28)).drew.heap[w1.heap.size]? = some (.cells (vwC m a).toArray 28 (0, 0)) := (by first | with_reducible rfl | assumption | (simp (disch := first | assumption | omega | (simp only [szR, fdsC_len, fdsC_all, spC_len, spC_all, cpC_len, vwC_len, cpC_all, vwC_all, lvC_len, lvC_all] <;> omega) | rfl | decide) only [gen0, gen1, gen2, rulesC, rulesX, litR, bolR, Nat.reduceAdd, Nat.reduceLeDiff, numR, memR, valR, heapR, updR, intR, decR, extR, slR, segR, thenR, pnR, Int.reduceToNat, Int.reduceAdd, Int.reduceSub, Int.reduceLT, Int.reduceLE, Nat.reduceSub, Nat.reduceMul, Nat.reduceEqDiff] <;> rfl))
  generalize (w1.alloc (.cells (vwC m a).toArray 28)).drew = w2 at *
  have q0 : (cpC t m a)[0]? = some (.bool t) := rfl
  refine relX.ext [] ?_
  refine postX.is (.agg (cpC t m a).toArray) (fun v w' hR _ => by
    have e := hR.at g1 (by simp)
    simp (disch := first | assumption | omega | (simp only [szR, fdsC_len, fdsC_all, spC_len, spC_all, cpC_len, vwC_len, cpC_all, vwC_all, lvC_len, lvC_all] <;> omega) | rfl | decide) only [gen0, gen1, gen2, rulesC, rulesX, litR, bolR, Nat.reduceAdd, Nat.reduceLeDiff, numR, memR, valR, heapR, updR, intR, decR, extR, slR, segR, thenR, pnR, Int.reduceToNat, Int.reduceAdd, Int.reduceSub, Int.reduceLT, Int.reduceLE, Nat.reduceSub, Nat.reduceMul, Nat.reduceEqDiff, e, cpC_sub]
    exact okX.is) ?_
  refine postX.is (.agg (vwC m a).toArray) (fun v w' hR _ => by
    have e := hR.at g3 (by simp)
    simp (disch := first | assumption | omega | (simp only [szR, fdsC_len, fdsC_all, spC_len, spC_all, cpC_len, vwC_len, cpC_all, vwC_all, lvC_len, lvC_all] <;> omega) | rfl | decide) only [gen0, gen1, gen2, rulesC, rulesX, litR, bolR, Nat.reduceAdd, Nat.reduceLeDiff, numR, memR, valR, heapR, updR, intR, decR, extR, slR, segR, thenR, pnR, Int.reduceToNat, Int.reduceAdd, Int.reduceSub, Int.reduceLT, Int.reduceLE, Nat.reduceSub, Nat.reduceMul, Nat.reduceEqDiff, e, vwC_sub]
    exact okX.is) ?_
  refine postX.is (.pointer (some ⟨w.heap.size, 0, none⟩)) (fun v w' hR _ => by simp (disch := first | assumption | omega | (simp only [szR, fdsC_len, fdsC_all, spC_len, spC_all, cpC_len, vwC_len, cpC_all, vwC_all, lvC_len, lvC_all] <;> omega) | rfl | decide) only [gen0, gen1, gen2, rulesC, rulesX, litR, bolR, Nat.reduceAdd, Nat.reduceLeDiff, numR, memR, valR, heapR, updR, intR, decR, extR, slR, segR, thenR, pnR, Int.reduceToNat, Int.reduceAdd, Int.reduceSub, Int.reduceLT, Int.reduceLE, Nat.reduceSub, Nat.reduceMul, Nat.reduceEqDiff]; exact okX.is) ?_
  refine postX.is (.bool t) (fun v w' hR hd => by
    obtain ⟨d1, -⟩ := hd
    have e := hR.at g1 (by simp)
    simp (disch := first | assumption | omega | (simp only [szR, fdsC_len, fdsC_all, spC_len, spC_all, cpC_len, vwC_len, cpC_all, vwC_all, lvC_len, lvC_all] <;> omega) | rfl | decide) only [gen0, gen1, gen2, rulesC, rulesX, litR, bolR, Nat.reduceAdd, Nat.reduceLeDiff, numR, memR, valR, heapR, updR, intR, decR, extR, slR, segR, thenR, pnR, Int.reduceToNat, Int.reduceAdd, Int.reduceSub, Int.reduceLT, Int.reduceLE, Nat.reduceSub, Nat.reduceMul, Nat.reduceEqDiff, d1, e, q0]
    exact okX.is) ?_
  refine postX.is (.bool t) (fun v w' hR hd => by
    obtain ⟨d1, -⟩ := hd
    rw [d1]
    exact okX.is) ?_
  refine postX.is (bif t then .agg (cpC t m a).toArray else undef) (fun v w' hR hd => by
    obtain ⟨d1, -⟩ := hd
    have e := hR.at g1 (by simp)
    cases t <;> simp (disch := first | assumption | omega | (simp only [szR, fdsC_len, fdsC_all, spC_len, spC_all, cpC_len, vwC_len, cpC_all, vwC_all, lvC_len, lvC_all] <;> omega) | rfl | decide) only [gen0, gen1, gen2, rulesC, rulesX, litR, bolR, Nat.reduceAdd, Nat.reduceLeDiff, numR, memR, valR, heapR, updR, intR, decR, extR, slR, segR, thenR, pnR, Int.reduceToNat, Int.reduceAdd, Int.reduceSub, Int.reduceLT, Int.reduceLE, Nat.reduceSub, Nat.reduceMul, Nat.reduceEqDiff, d1, e, cpC_sub, cond_true, cond_false] <;> exact okX.is) ?_
  refine postX.is (bif t then .bool (rightM m a) else undef) (fun v w' hR hd => by
    obtain ⟨d1, d2, -⟩ := hd
    cases t <;> simp (disch := first | assumption | omega | (simp only [szR, fdsC_len, fdsC_all, spC_len, spC_all, cpC_len, vwC_len, cpC_all, vwC_all, lvC_len, lvC_all] <;> omega) | rfl | decide) only [gen0, gen1, gen2, rulesC, rulesX, litR, bolR, Nat.reduceAdd, Nat.reduceLeDiff, numR, memR, valR, heapR, updR, intR, decR, extR, slR, segR, thenR, pnR, Int.reduceToNat, Int.reduceAdd, Int.reduceSub, Int.reduceLT, Int.reduceLE, Nat.reduceSub, Nat.reduceMul, Nat.reduceEqDiff, d1, d2, cond_true, cond_false]
    · exact okX.is
    · exact Right_spec hm ha fun w'' hx => okX.mk hx rfl) ?_
  refine postX.is (.bool (t && rightM m a)) (fun v w' hR hd => by
    obtain ⟨d1, d2, -⟩ := hd
    cases t <;> simp (disch := first | assumption | omega | (simp only [szR, fdsC_len, fdsC_all, spC_len, spC_all, cpC_len, vwC_len, cpC_all, vwC_all, lvC_len, lvC_all] <;> omega) | rfl | decide) only [gen0, gen1, gen2, rulesC, rulesX, litR, bolR, Nat.reduceAdd, Nat.reduceLeDiff, numR, memR, valR, heapR, updR, intR, decR, extR, slR, segR, thenR, pnR, Int.reduceToNat, Int.reduceAdd, Int.reduceSub, Int.reduceLT, Int.reduceLE, Nat.reduceSub, Nat.reduceMul, Nat.reduceEqDiff, d1, d2, cond_true, cond_false, Bool.true_and, Bool.false_and] <;> exact okX.is) ?_
  intro v w3 hR hd _
  obtain ⟨d10, d11, -, -, -, -, -, d17, -⟩ := hd
  rw [d10, d11, d17]
  have k2 := hR.at g2 (by simp)
  have l3 := lt_of_at k2
  have hb : ∀ (x0 : Bool) (x1 x2 y0 y1 y2 y3 : Int) (z : Bool) (w : World), (Instr.build 121 #[(0, .agg [.bool x0, .int .u64 x1, .int .u64 x2].toArray), (1, .agg [.int .u64 y0, .int .u64 y1, .int .u64 y2, .int .u64 y3].toArray), (2, .bool z)]).run Tryz.prog w = .ok (.agg [.bool x0, .int .u64 x1, .int .u64 x2, .int .u64 y0, .int .u64 y1, .int .u64 y2, .int .u64 y3, .bool z].toArray) w := fun x0 x1 x2 y0 y1 y2 y3 z w => run_build w 121 _ _ (by kernel_rfl)
  have hb2 : ∀ w, (Instr.build 121 #[(0, .agg (cpC t m a).toArray), (1, .agg (vwC m a).toArray), (2, .bool (t && rightM m a))]).run Tryz.prog w = .ok (.agg (lvC t m a).toArray) w := fun w => hb _ _ _ _ _ _ _ _ w
  have hxc : Ext [] w (World.upd w3 (w.heap.size + 1) (lvC t m a)) := by
    have := hxb.trans hR (by simp)
    (repeat first | assumption | exact Ext.refl | apply Ext.alloc | apply Ext.drew | (refine Ext.updN ?_ ?_; (focus first | omega | (simp only [szR] <;> omega))) | (refine Ext.updI ?_ ?_; (focus (simp; done))))
  simp (disch := first | assumption | omega | (simp only [szR, fdsC_len, fdsC_all, spC_len, spC_all, cpC_len, vwC_len, cpC_all, vwC_all, lvC_len, lvC_all] <;> omega) | rfl | decide) only [gen0, gen1, gen2, rulesC, rulesX, litR, bolR, Nat.reduceAdd, Nat.reduceLeDiff, numR, memR, valR, heapR, updR, intR, decR, extR, slR, segR, thenR, pnR, Int.reduceToNat, Int.reduceAdd, Int.reduceSub, Int.reduceLT, Int.reduceLE, Nat.reduceSub, Nat.reduceMul, Nat.reduceEqDiff, hb2, k2, lv_over, lv_over2, lvC_sub]
  exact hK _ hxc
/-- is it open? -/
def openM (t : Bool) (m a : Nat) : Bool := t && rightM m a && decide (m / 281474976710656 % 4096 = 0)
theorem open_spec {w : World} {t : Bool} {m a : Nat} {K : Value → World → Prop} (hK : ∀ w', Ext [] w w' → K (.bool (openM t m a)) w') : callsK Tryz.prog 64 #[.agg (lvC t m a).toArray] w K := by
  apply F64_ok
  unfold F64
  have q7 : (lvC t m a)[7]? = some (.bool (t && rightM m a)) := rfl
  have q6 : (lvC t m a)[6]? = some (.int .u64 (m / 281474976710656 % 4096 : Nat)) := rfl
  have hO : openM t m a = (t && rightM m a && decide (m / 281474976710656 % 4096 = 0)) := rfl
  rw [hO] at hK
  obtain ⟨X, hX⟩ : ∃ X, X = (t && rightM m a) := ⟨_, rfl⟩
  rw [← hX] at hK q7
  have hlt : m / 281474976710656 % 4096 < 4096 := Nat.mod_lt _ (by decide)
  generalize m / 281474976710656 % 4096 = y at *
  cases X with
  | false =>
    simp (disch := first | assumption | omega | (simp only [szR, fdsC_len, fdsC_all, spC_len, spC_all, cpC_len, vwC_len, cpC_all, vwC_all, lvC_len, lvC_all] <;> omega) | rfl | decide) only [gen0, gen1, gen2, rulesC, rulesX, litR, bolR, Nat.reduceAdd, Nat.reduceLeDiff, numR, memR, valR, heapR, updR, intR, decR, extR, slR, segR, thenR, pnR, Int.reduceToNat, Int.reduceAdd, Int.reduceSub, Int.reduceLT, Int.reduceLE, Nat.reduceSub, Nat.reduceMul, Nat.reduceEqDiff, joinBR, q7]
    exact hK _ (by (repeat first | assumption | exact Ext.refl | apply Ext.alloc | apply Ext.drew | (refine Ext.updN ?_ ?_; (focus first | omega | (simp only [szR] <;> omega))) | (refine Ext.updI ?_ ?_; (focus (simp; done)))))
  | true =>
    by_cases hy : y = 0
    · rw [decide_eq_true hy] at hK
      simp (disch := first | assumption | omega | (simp only [szR, fdsC_len, fdsC_all, spC_len, spC_all, cpC_len, vwC_len, cpC_all, vwC_all, lvC_len, lvC_all] <;> omega) | rfl | decide) only [gen0, gen1, gen2, rulesC, rulesX, litR, bolR, Nat.reduceAdd, Nat.reduceLeDiff, numR, memR, valR, heapR, updR, intR, decR, extR, slR, segR, thenR, pnR, Int.reduceToNat, Int.reduceAdd, Int.reduceSub, Int.reduceLT, Int.reduceLE, Nat.reduceSub, Nat.reduceMul, Nat.reduceEqDiff, joinBR, q7, q6]
      exact hK _ (by (repeat first | assumption | exact Ext.refl | apply Ext.alloc | apply Ext.drew | (refine Ext.updN ?_ ?_; (focus first | omega | (simp only [szR] <;> omega))) | (refine Ext.updI ?_ ?_; (focus (simp; done)))))
    · rw [decide_eq_false hy] at hK
      simp (disch := first | assumption | omega | (simp only [szR, fdsC_len, fdsC_all, spC_len, spC_all, cpC_len, vwC_len, cpC_all, vwC_all, lvC_len, lvC_all] <;> omega) | rfl | decide) only [gen0, gen1, gen2, rulesC, rulesX, litR, bolR, Nat.reduceAdd, Nat.reduceLeDiff, numR, memR, valR, heapR, updR, intR, decR, extR, slR, segR, thenR, pnR, Int.reduceToNat, Int.reduceAdd, Int.reduceSub, Int.reduceLT, Int.reduceLE, Nat.reduceSub, Nat.reduceMul, Nat.reduceEqDiff, joinBR, q7, q6]
      exact hK _ (by (repeat first | assumption | exact Ext.refl | apply Ext.alloc | apply Ext.drew | (refine Ext.updN ?_ ?_; (focus first | omega | (simp only [szR] <;> omega))) | (refine Ext.updI ?_ ?_; (focus (simp; done)))))
/-- permissions among others. -/
def pwN (p q : Nat) : Bool := (List.range 64).all fun i => !p.testBit i || q.testBit i
theorem pw_spec {w : World} {p q : Nat} (hp : p < 18446744073709551616) (hq : q < 18446744073709551616) {K : Value → World → Prop} (hK : K (.bool (pwN p q)) w) : callsK Tryz.prog 65 #[.int .u64 (p : Nat), .int .u64 (q : Nat)] w K := by
  apply F65_ok
  unfold F65
  obtain ⟨r, hr, hr2, hr3⟩ := andNot_u64 (a := (p : Int)) (b := (q : Int)) (by omega) (by omega)
  have hz : pwN p q = decide (r = 0) := by
    rw [Bool.eq_iff_iff, decide_eq_true_eq]
    unfold pwN
    rw [List.all_eq_true]
    constructor
    · intro h
      apply Nat.eq_of_testBit_eq
      intro i
      rw [Nat.zero_testBit]
      by_cases hi : i < 64
      · have := h i (List.mem_range.2 hi)
        rw [hr3 i hi]
        simp only [Int.toNat_natCast]
        revert this
        cases p.testBit i <;> cases q.testBit i <;> simp
      · have p1 : (2 : Nat) ^ 64 ≤ 2 ^ i := Nat.pow_le_pow_right (by omega) (by omega)
        have p2 : (2 : Nat) ^ 64 = 18446744073709551616 := by decide
        exact Nat.testBit_lt_two_pow (by omega)
    · intro h i hi
      have := hr3 i (List.mem_range.1 hi)
      rw [h, Nat.zero_testBit] at this
      simp only [Int.toNat_natCast] at this
      revert this
      cases p.testBit i <;> cases q.testBit i <;> simp
  rw [hz] at hK
  by_cases h0 : r = 0
  · rw [decide_eq_true h0] at hK
    simp (disch := first | assumption | omega | (simp only [szR, fdsC_len, fdsC_all, spC_len, spC_all, cpC_len, vwC_len, cpC_all, vwC_all, lvC_len, lvC_all] <;> omega) | rfl | decide) only [gen0, gen1, gen2, rulesC, rulesX, litR, bolR, Nat.reduceAdd, Nat.reduceLeDiff, numR, memR, valR, heapR, updR, intR, decR, extR, slR, segR, thenR, pnR, Int.reduceToNat, Int.reduceAdd, Int.reduceSub, Int.reduceLT, Int.reduceLE, Nat.reduceSub, Nat.reduceMul, Nat.reduceEqDiff, joinBR, hr]
    exact hK
  · rw [decide_eq_false h0] at hK
    simp (disch := first | assumption | omega | (simp only [szR, fdsC_len, fdsC_all, spC_len, spC_all, cpC_len, vwC_len, cpC_all, vwC_all, lvC_len, lvC_all] <;> omega) | rfl | decide) only [gen0, gen1, gen2, rulesC, rulesX, litR, bolR, Nat.reduceAdd, Nat.reduceLeDiff, numR, memR, valR, heapR, updR, intR, decR, extR, slR, segR, thenR, pnR, Int.reduceToNat, Int.reduceAdd, Int.reduceSub, Int.reduceLT, Int.reduceLE, Nat.reduceSub, Nat.reduceMul, Nat.reduceEqDiff, joinBR, hr]
    exact hK
theorem pw_still {w : World} {p q : Nat} (hp : p < 18446744073709551616) (hq : q < 18446744073709551616) {K : Value → Prop} (hK : K (.bool (pwN p q))) : callsS Tryz.prog 65 #[.int .u64 (p : Nat), .int .u64 (q : Nat)] w K := callsS.of _ (pw_spec hp hq ⟨rfl, rfl⟩) hK
def needN (k : Nat) : Nat := if k = 0 then 4 else if k = 1 then 1 else if k = 2 then 2 else if k = 3 then 9 else if k = 4 then 18 else 511
theorem need_spec {w : World} {k : Nat} (hk : k < 5) {K : Value → World → Prop} (hK : K (.int .u64 (needN k : Nat)) w) : callsK Tryz.prog 66 #[.int .i64 (k : Nat)] w K := by
  apply F66_ok
  unfold F66
  match k, hk with
  | 0, _ => simp (disch := first | assumption | omega | (simp only [szR, fdsC_len, fdsC_all, spC_len, spC_all, cpC_len, vwC_len, cpC_all, vwC_all, lvC_len, lvC_all] <;> omega) | rfl | decide) only [gen0, gen1, gen2, rulesC, rulesX, litR, bolR, Nat.reduceAdd, Nat.reduceLeDiff, numR, memR, valR, heapR, updR, intR, decR, extR, slR, segR, thenR, pnR, Int.reduceToNat, Int.reduceAdd, Int.reduceSub, Int.reduceLT, Int.reduceLE, Nat.reduceSub, Nat.reduceMul, Nat.reduceEqDiff, joinBR]; exact hK
  | 1, _ => simp (disch := first | assumption | omega | (simp only [szR, fdsC_len, fdsC_all, spC_len, spC_all, cpC_len, vwC_len, cpC_all, vwC_all, lvC_len, lvC_all] <;> omega) | rfl | decide) only [gen0, gen1, gen2, rulesC, rulesX, litR, bolR, Nat.reduceAdd, Nat.reduceLeDiff, numR, memR, valR, heapR, updR, intR, decR, extR, slR, segR, thenR, pnR, Int.reduceToNat, Int.reduceAdd, Int.reduceSub, Int.reduceLT, Int.reduceLE, Nat.reduceSub, Nat.reduceMul, Nat.reduceEqDiff, joinBR]; exact hK
  | 2, _ => simp (disch := first | assumption | omega | (simp only [szR, fdsC_len, fdsC_all, spC_len, spC_all, cpC_len, vwC_len, cpC_all, vwC_all, lvC_len, lvC_all] <;> omega) | rfl | decide) only [gen0, gen1, gen2, rulesC, rulesX, litR, bolR, Nat.reduceAdd, Nat.reduceLeDiff, numR, memR, valR, heapR, updR, intR, decR, extR, slR, segR, thenR, pnR, Int.reduceToNat, Int.reduceAdd, Int.reduceSub, Int.reduceLT, Int.reduceLE, Nat.reduceSub, Nat.reduceMul, Nat.reduceEqDiff, joinBR]; exact hK
  | 3, _ => simp (disch := first | assumption | omega | (simp only [szR, fdsC_len, fdsC_all, spC_len, spC_all, cpC_len, vwC_len, cpC_all, vwC_all, lvC_len, lvC_all] <;> omega) | rfl | decide) only [gen0, gen1, gen2, rulesC, rulesX, litR, bolR, Nat.reduceAdd, Nat.reduceLeDiff, numR, memR, valR, heapR, updR, intR, decR, extR, slR, segR, thenR, pnR, Int.reduceToNat, Int.reduceAdd, Int.reduceSub, Int.reduceLT, Int.reduceLE, Nat.reduceSub, Nat.reduceMul, Nat.reduceEqDiff, joinBR]; exact hK
  | 4, _ => simp (disch := first | assumption | omega | (simp only [szR, fdsC_len, fdsC_all, spC_len, spC_all, cpC_len, vwC_len, cpC_all, vwC_all, lvC_len, lvC_all] <;> omega) | rfl | decide) only [gen0, gen1, gen2, rulesC, rulesX, litR, bolR, Nat.reduceAdd, Nat.reduceLeDiff, numR, memR, valR, heapR, updR, intR, decR, extR, slR, segR, thenR, pnR, Int.reduceToNat, Int.reduceAdd, Int.reduceSub, Int.reduceLT, Int.reduceLE, Nat.reduceSub, Nat.reduceMul, Nat.reduceEqDiff, joinBR]; exact hK
theorem need_still {w : World} {k : Nat} (hk : k < 5) {K : Value → Prop} (hK : K (.int .u64 (needN k : Nat))) : callsS Tryz.prog 66 #[.int .i64 (k : Nat)] w K := callsS.of _ (need_spec hk ⟨rfl, rfl⟩) hK
end Go.Proofs.YtplfniijbeinmaaGreat
