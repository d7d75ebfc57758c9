/- Registers: a context's cells, one told, one laid; conditions: those of each theorem. -/
import Derived.Test.YtplfniijbeinmaaGreatAlg4
namespace Go.Proofs.YtplfniijbeinmaaGreat
open Go.Fx
set_option maxRecDepth 100000
set_option linter.unusedSimpArgs false
set_option linter.unusedVariables false
/-- a capability. -/
structure Cq where
  t : Bool
  m : Nat
  a : Nat
def Cq.zero : Cq := ⟨false, 0, 0⟩
def cq (c : Cq) : List Value := cpC c.t c.m c.a
theorem cq_len (c : Cq) : (cq c).length = 3 := by simp [cq, cpC]
theorem cq_all (c : Cq) : (cq c).all (fun v => v.oneCell') = true := cpC_all _ _ _
theorem cq_sub (c : Cq) : sub (cq c) 0 3 = cq c := rfl
theorem cq_over (c d : Cq) : splice (cq c) 0 (cq d) = cq d := rfl
theorem cq_over0 (d : Cq) : splice [.bool false, .int .u64 0, .int .u64 0] 0 (cq d) = cq d := rfl
theorem cq_put (d : Cq) : cq d ++ List.drop (cq d).length [.bool false, .int .u64 0, .int .u64 0] = cq d := by simp [cq, cpC]
/-- the cells of a context: 32 registers, and the next instruction's. -/
def rowsC (c : Nat → Cq) : Nat → List Value
  | 0 => []
  | n + 1 => rowsC c n ++ cq (c n)
theorem rowsC_len (c : Nat → Cq) : ∀ n, (rowsC c n).length = n * 3
  | 0 => rfl
  | n + 1 => by rw [rowsC, List.length_append, rowsC_len c n, cq_len, Nat.succ_mul]
theorem rowsC_get (c : Nat → Cq) : ∀ n i, i < n * 3 → (rowsC c n)[i]? = (cq (c (i / 3)))[i % 3]?
  | 0, i, h => by omega
  | n + 1, i, h => by
    rw [rowsC]
    by_cases hi : i < n * 3
    · rw [List.getElem?_append_left (by rw [rowsC_len]; exact hi), rowsC_get c n i hi]
    · rw [List.getElem?_append_right (by rw [rowsC_len]; omega), rowsC_len, show i / 3 = n by omega, show i - n * 3 = i % 3 by omega]
theorem rowsC_all (c : Nat → Cq) : ∀ n, (rowsC c n).all (fun v => v.oneCell') = true
  | 0 => rfl
  | n + 1 => by rw [rowsC, List.all_append, rowsC_all c n, cq_all]; rfl
def cxC (c : Nat → Cq) : List Value := rowsC c 33
theorem cxC_len (c : Nat → Cq) : (cxC c).length = 99 := by rw [cxC, rowsC_len]
theorem cxC_all (c : Nat → Cq) : (cxC c).all (fun v => v.oneCell') = true := rowsC_all c 33
theorem cx_sub (c : Nat → Cq) : sub (cxC c) 0 99 = cxC c := by
  unfold sub
  rw [List.drop_zero, List.take_of_length_le (by rw [cxC_len]; omega)]
theorem cx_over (c d : Nat → Cq) : splice (cxC c) 0 (cxC d) = cxC d := by
  unfold splice
  rw [List.take_zero, List.nil_append, cxC_len, List.drop_of_length_le (by rw [cxC_len]; omega), List.append_nil]
theorem cx_put (c d : Nat → Cq) : cxC d ++ List.drop (cxC d).length (cxC c) = cxC d := by
  rw [cxC_len, List.drop_of_length_le (by rw [cxC_len]; omega), List.append_nil]
theorem cx_at {c : Nat → Cq} {k : Nat} (h : k < 33) : sub (cxC c) (k * 3) 3 = cq (c k) := by
  apply List.ext_getElem?
  intro j
  unfold sub
  rw [List.getElem?_take]
  split
  · rename_i hj
    rw [List.getElem?_drop, cxC, rowsC_get c 33 _ (by omega), show (k * 3 + j) / 3 = k by omega, show (k * 3 + j) % 3 = j by omega]
  · rename_i hj
    rw [List.getElem?_eq_none (by rw [cq_len]; omega)]
/-- one of them another. -/
def setX (c : Nat → Cq) (k : Nat) (x : Cq) : Nat → Cq := fun j => if j = k then x else c j
theorem cx_with {c : Nat → Cq} {k : Nat} {x : Cq} (h : k < 33) : splice (cxC c) (k * 3) (cq x) = cxC (setX c k x) := by
  apply List.ext_getElem?
  intro i
  rw [splice_get (by rw [cq_len, cxC_len]; omega), cq_len]
  by_cases hi : i < 99
  · have e1 : (cxC c)[i]? = (cq (c (i / 3)))[i % 3]? := rowsC_get c 33 i (by omega)
    have e2 : (cxC (setX c k x))[i]? = (cq (setX c k x (i / 3)))[i % 3]? := rowsC_get _ 33 i (by omega)
    rw [e1, e2]
    unfold setX
    by_cases h1 : i < k * 3
    · rw [if_pos h1, if_neg (by omega)]
    · rw [if_neg h1]
      by_cases h2 : i < k * 3 + 3
      · rw [if_pos h2, if_pos (by omega), show i - k * 3 = i % 3 by omega]
      · rw [if_neg h2, if_neg (by omega)]
  · rw [if_neg (by omega), if_neg (by omega), List.getElem?_eq_none (by rw [cxC_len]; omega), List.getElem?_eq_none (by rw [cxC_len]; omega)]
def zeroX : Nat → Cq := fun _ => Cq.zero
theorem zeroX_cells : Tryz.zeroCells42 = (cxC zeroX).toArray := by kernel_rfl
theorem is_spec {w : World} {n : Nat} (hn : n < 9223372036854775808) {K : Value → World → Prop} (hK : K (.bool (decide (1 ≤ n ∧ n < 32))) w) : callsK Tryz.prog 27 #[.int .i64 (n : Nat)] w K := by
  apply F27_ok
  unfold F27
  by_cases h1 : 1 ≤ n
  · by_cases h2 : n < 32
    · rw [decide_eq_true (And.intro h1 h2)] at hK
      simp (disch := first | assumption | omega | (simp only [szR, fdsC_len, fdsC_all, spC_len, spC_all, cpC_len, vwC_len, cpC_all, vwC_all, lvC_len, lvC_all, cq_len, cq_all, cxC_len, cxC_all] <;> omega) | rfl | decide) only [gen0, gen1, gen2, rulesC, rulesX, litR, bolR, Nat.reduceAdd, Nat.reduceLeDiff, numR, memR, valR, heapR, updR, intR, decR, extR, slR, segR, thenR, pnR, Int.reduceToNat, Int.reduceAdd, Int.reduceSub, Int.reduceLT, Int.reduceLE, Nat.reduceSub, Nat.reduceMul, Nat.reduceEqDiff, joinBR]
      exact hK
    · rw [decide_eq_false (fun h : 1 ≤ n ∧ n < 32 => h2 h.2)] at hK
      simp (disch := first | assumption | omega | (simp only [szR, fdsC_len, fdsC_all, spC_len, spC_all, cpC_len, vwC_len, cpC_all, vwC_all, lvC_len, lvC_all, cq_len, cq_all, cxC_len, cxC_all] <;> omega) | rfl | decide) only [gen0, gen1, gen2, rulesC, rulesX, litR, bolR, Nat.reduceAdd, Nat.reduceLeDiff, numR, memR, valR, heapR, updR, intR, decR, extR, slR, segR, thenR, pnR, Int.reduceToNat, Int.reduceAdd, Int.reduceSub, Int.reduceLT, Int.reduceLE, Nat.reduceSub, Nat.reduceMul, Nat.reduceEqDiff, joinBR]
      exact hK
  · rw [decide_eq_false (fun h : 1 ≤ n ∧ n < 32 => h1 h.1)] at hK
    simp (disch := first | assumption | omega | (simp only [szR, fdsC_len, fdsC_all, spC_len, spC_all, cpC_len, vwC_len, cpC_all, vwC_all, lvC_len, lvC_all, cq_len, cq_all, cxC_len, cxC_all] <;> omega) | rfl | decide) only [gen0, gen1, gen2, rulesC, rulesX, litR, bolR, Nat.reduceAdd, Nat.reduceLeDiff, numR, memR, valR, heapR, updR, intR, decR, extR, slR, segR, thenR, pnR, Int.reduceToNat, Int.reduceAdd, Int.reduceSub, Int.reduceLT, Int.reduceLE, Nat.reduceSub, Nat.reduceMul, Nat.reduceEqDiff, joinBR]
    exact hK
theorem is_still {w : World} {n : Nat} (hn : n < 9223372036854775808) {K : Value → Prop} (hK : K (.bool (decide (1 ≤ n ∧ n < 32)))) : callsS Tryz.prog 27 #[.int .i64 (n : Nat)] w K := callsS.of _ (is_spec hn ⟨rfl, rfl⟩) hK
/-- a register: zero, or one of them. -/
def regX (c : Nat → Cq) (n : Nat) : Cq := if 1 ≤ n ∧ n < 32 then c n else Cq.zero
theorem Get_reg {w : World} {c : Nat → Cq} {n : Nat} (hn : n < 9223372036854775808) {K : Value → World → Prop} (hK : ∀ w', Ext [] w w' → K (.agg (cq (regX c n)).toArray) w') : callsK Tryz.prog 11 #[.agg (cxC c).toArray, .int .i64 (n : Nat)] w K := by
  apply F11_ok
  unfold F11
  simp (disch := first | assumption | omega | (simp only [szR, fdsC_len, fdsC_all, spC_len, spC_all, cpC_len, vwC_len, cpC_all, vwC_all, lvC_len, lvC_all, cq_len, cq_all, cxC_len, cxC_all] <;> omega) | rfl | decide) only [gen0, gen1, gen2, rulesC, rulesX, litR, bolR, Nat.reduceAdd, Nat.reduceLeDiff, numR, memR, valR, heapR, updR, intR, decR, extR, slR, segR, thenR, pnR, Int.reduceToNat, Int.reduceAdd, Int.reduceSub, Int.reduceLT, Int.reduceLE, Nat.reduceSub, Nat.reduceMul, Nat.reduceEqDiff]
  refine is_spec hn ?_
  have hb : ∀ w, (Instr.build 24 #[]).run Tryz.prog w = .ok (.agg (cq Cq.zero).toArray) w := fun w => run_build w 24 _ _ (by kernel_rfl)
  unfold regX at hK
  by_cases h : 1 ≤ n ∧ n < 32
  · rw [if_pos h] at hK
    rw [decide_eq_true h]
    simp (disch := first | assumption | omega | (simp only [szR, fdsC_len, fdsC_all, spC_len, spC_all, cpC_len, vwC_len, cpC_all, vwC_all, lvC_len, lvC_all, cq_len, cq_all, cxC_len, cxC_all] <;> omega) | rfl | decide) only [gen0, gen1, gen2, rulesC, rulesX, litR, bolR, Nat.reduceAdd, Nat.reduceLeDiff, numR, memR, valR, heapR, updR, intR, decR, extR, slR, segR, thenR, pnR, Int.reduceToNat, Int.reduceAdd, Int.reduceSub, Int.reduceLT, Int.reduceLE, Nat.reduceSub, Nat.reduceMul, Nat.reduceEqDiff, Bool.not_true, Int.toNat_natCast, Nat.zero_add, cx_at, cq_over0, cq_put, cq_sub]
    exact hK _ (by (repeat first | assumption | exact Ext.refl | apply Ext.alloc | apply Ext.drew | (refine Ext.updN ?_ ?_; (focus first | omega | (simp only [szR] <;> omega))) | (refine Ext.updI ?_ ?_; (focus (simp; done)))))
  · rw [if_neg h] at hK
    rw [decide_eq_false h]
    simp (disch := first | assumption | omega | (simp only [szR, fdsC_len, fdsC_all, spC_len, spC_all, cpC_len, vwC_len, cpC_all, vwC_all, lvC_len, lvC_all, cq_len, cq_all, cxC_len, cxC_all] <;> omega) | rfl | decide) only [gen0, gen1, gen2, rulesC, rulesX, litR, bolR, Nat.reduceAdd, Nat.reduceLeDiff, numR, memR, valR, heapR, updR, intR, decR, extR, slR, segR, thenR, pnR, Int.reduceToNat, Int.reduceAdd, Int.reduceSub, Int.reduceLT, Int.reduceLE, Nat.reduceSub, Nat.reduceMul, Nat.reduceEqDiff, Bool.not_false, hb, cq_over0, cq_put, cq_sub]
    exact hK _ (by (repeat first | assumption | exact Ext.refl | apply Ext.alloc | apply Ext.drew | (refine Ext.updN ?_ ?_; (focus first | omega | (simp only [szR] <;> omega))) | (refine Ext.updI ?_ ?_; (focus (simp; done)))))
/-- a context with a register another one. -/
def withX (c : Nat → Cq) (n : Nat) (x : Cq) : Nat → Cq := if 1 ≤ n ∧ n < 32 then setX c n x else c
theorem With_reg {w : World} {c : Nat → Cq} {n : Nat} {x : Cq} (hn : n < 9223372036854775808) {K : Value → World → Prop} (hK : ∀ w', Ext [] w w' → K (.agg (cxC (withX c n x)).toArray) w') : callsK Tryz.prog 9 #[.agg (cxC c).toArray, .int .i64 (n : Nat), .agg (cq x).toArray] w K := by
  apply F9_ok
  unfold F9
  simp (disch := first | assumption | omega | (simp only [szR, fdsC_len, fdsC_all, spC_len, spC_all, cpC_len, vwC_len, cpC_all, vwC_all, lvC_len, lvC_all, cq_len, cq_all, cxC_len, cxC_all] <;> omega) | rfl | decide) only [gen0, gen1, gen2, rulesC, rulesX, litR, bolR, Nat.reduceAdd, Nat.reduceLeDiff, numR, memR, valR, heapR, updR, intR, decR, extR, slR, segR, thenR, pnR, Int.reduceToNat, Int.reduceAdd, Int.reduceSub, Int.reduceLT, Int.reduceLE, Nat.reduceSub, Nat.reduceMul, Nat.reduceEqDiff]
  refine joinL.intro fun J hJ => ?_
  have hend : ∀ d w2, w2.heap[w.heap.size]? = some (.cells (cxC d).toArray 42 (0, 0)) → w2.heap[w.heap.size + 2]? = some (.cells (cxC zeroX).toArray 42 (0, 0)) → Ext [] w w2 → d = withX c n x → J [] w2 := by
    intro d w2 h1 h2 h3 h4
    apply hJ
    intro _
    have l1 := lt_of_at h1
    have l2 := lt_of_at h2
    simp (disch := first | assumption | omega | (simp only [szR, fdsC_len, fdsC_all, spC_len, spC_all, cpC_len, vwC_len, cpC_all, vwC_all, lvC_len, lvC_all, cq_len, cq_all, cxC_len, cxC_all] <;> omega) | rfl | decide) only [gen0, gen1, gen2, rulesC, rulesX, litR, bolR, Nat.reduceAdd, Nat.reduceLeDiff, numR, memR, valR, heapR, updR, intR, decR, extR, slR, segR, thenR, pnR, Int.reduceToNat, Int.reduceAdd, Int.reduceSub, Int.reduceLT, Int.reduceLE, Nat.reduceSub, Nat.reduceMul, Nat.reduceEqDiff, h1, h2, cx_sub, cx_over, cx_put]
    subst h4
    exact hK _ (by (repeat first | assumption | exact Ext.refl | apply Ext.alloc | apply Ext.drew | (refine Ext.updN ?_ ?_; (focus first | omega | (simp only [szR] <;> omega))) | (refine Ext.updI ?_ ?_; (focus (simp; done)))))
  refine is_spec hn ?_
  have hd : withX c n x = if 1 ≤ n ∧ n < 32 then setX c n x else c := rfl
  by_cases h : 1 ≤ n ∧ n < 32
  · rw [if_pos h] at hd
    rw [decide_eq_true h]
    simp (disch := first | assumption | omega | (simp only [szR, fdsC_len, fdsC_all, spC_len, spC_all, cpC_len, vwC_len, cpC_all, vwC_all, lvC_len, lvC_all, cq_len, cq_all, cxC_len, cxC_all] <;> omega) | rfl | decide) only [gen0, gen1, gen2, rulesC, rulesX, litR, bolR, Nat.reduceAdd, Nat.reduceLeDiff, numR, memR, valR, heapR, updR, intR, decR, extR, slR, segR, thenR, pnR, Int.reduceToNat, Int.reduceAdd, Int.reduceSub, Int.reduceLT, Int.reduceLE, Nat.reduceSub, Nat.reduceMul, Nat.reduceEqDiff, cq_sub, Int.toNat_natCast, Nat.zero_add, cx_with]
    refine hend (setX c n x) _ (upd_at (l0 := cxC c) (by first | with_reducible rfl | assumption | (simp (disch := first | assumption | omega | (simp only [szR, fdsC_len, fdsC_all, spC_len, spC_all, cpC_len, vwC_len, cpC_all, vwC_all, lvC_len, lvC_all, cq_len, cq_all, cxC_len, cxC_all] <;> omega) | rfl | decide) only [gen0, gen1, gen2, rulesC, rulesX, litR, bolR, Nat.reduceAdd, Nat.reduceLeDiff, numR, memR, valR, heapR, updR, intR, decR, extR, slR, segR, thenR, pnR, Int.reduceToNat, Int.reduceAdd, Int.reduceSub, Int.reduceLT, Int.reduceLE, Nat.reduceSub, Nat.reduceMul, Nat.reduceEqDiff] <;> rfl))) (by rw [zeroX_cells]; simp (disch := first | assumption | omega | (simp only [szR, fdsC_len, fdsC_all, spC_len, spC_all, cpC_len, vwC_len, cpC_all, vwC_all, lvC_len, lvC_all, cq_len, cq_all, cxC_len, cxC_all] <;> omega) | rfl | decide) only [gen0, gen1, gen2, rulesC, rulesX, litR, bolR, Nat.reduceAdd, Nat.reduceLeDiff, numR, memR, valR, heapR, updR, intR, decR, extR, slR, segR, thenR, pnR, Int.reduceToNat, Int.reduceAdd, Int.reduceSub, Int.reduceLT, Int.reduceLE, Nat.reduceSub, Nat.reduceMul, Nat.reduceEqDiff]) (by (repeat first | assumption | exact Ext.refl | apply Ext.alloc | apply Ext.drew | (refine Ext.updN ?_ ?_; (focus first | omega | (simp only [szR] <;> omega))) | (refine Ext.updI ?_ ?_; (focus (simp; done))))) hd.symm
  · rw [if_neg h] at hd
    rw [decide_eq_false h]
    simp (disch := first | assumption | omega | (simp only [szR, fdsC_len, fdsC_all, spC_len, spC_all, cpC_len, vwC_len, cpC_all, vwC_all, lvC_len, lvC_all, cq_len, cq_all, cxC_len, cxC_all] <;> omega) | rfl | decide) only [gen0, gen1, gen2, rulesC, rulesX, litR, bolR, Nat.reduceAdd, Nat.reduceLeDiff, numR, memR, valR, heapR, updR, intR, decR, extR, slR, segR, thenR, pnR, Int.reduceToNat, Int.reduceAdd, Int.reduceSub, Int.reduceLT, Int.reduceLE, Nat.reduceSub, Nat.reduceMul, Nat.reduceEqDiff]
    exact hend c _ (by first | with_reducible rfl | assumption | (simp (disch := first | assumption | omega | (simp only [szR, fdsC_len, fdsC_all, spC_len, spC_all, cpC_len, vwC_len, cpC_all, vwC_all, lvC_len, lvC_all, cq_len, cq_all, cxC_len, cxC_all] <;> omega) | rfl | decide) only [gen0, gen1, gen2, rulesC, rulesX, litR, bolR, Nat.reduceAdd, Nat.reduceLeDiff, numR, memR, valR, heapR, updR, intR, decR, extR, slR, segR, thenR, pnR, Int.reduceToNat, Int.reduceAdd, Int.reduceSub, Int.reduceLT, Int.reduceLE, Nat.reduceSub, Nat.reduceMul, Nat.reduceEqDiff] <;> rfl)) (by rw [zeroX_cells]; simp (disch := first | assumption | omega | (simp only [szR, fdsC_len, fdsC_all, spC_len, spC_all, cpC_len, vwC_len, cpC_all, vwC_all, lvC_len, lvC_all, cq_len, cq_all, cxC_len, cxC_all] <;> omega) | rfl | decide) only [gen0, gen1, gen2, rulesC, rulesX, litR, bolR, Nat.reduceAdd, Nat.reduceLeDiff, numR, memR, valR, heapR, updR, intR, decR, extR, slR, segR, thenR, pnR, Int.reduceToNat, Int.reduceAdd, Int.reduceSub, Int.reduceLT, Int.reduceLE, Nat.reduceSub, Nat.reduceMul, Nat.reduceEqDiff]) (by (repeat first | assumption | exact Ext.refl | apply Ext.alloc | apply Ext.drew | (refine Ext.updN ?_ ?_; (focus first | omega | (simp only [szR] <;> omega))) | (refine Ext.updI ?_ ?_; (focus (simp; done))))) hd.symm
theorem Zero_reg {w : World} {x : Cq} {K : Value → World → Prop} (hK : ∀ w', Ext [] w w' → K (.agg (cxC (setX zeroX 32 x)).toArray) w') : callsK Tryz.prog 8 #[.agg (cq x).toArray] w K := by
  apply F8_ok
  unfold F8
  have hb : ∀ (t : Bool) (m a : Int) (w : World), (Instr.build 42 #[(1, .agg [.bool t, .int .u64 m, .int .u64 a].toArray)]).run Tryz.prog w = .ok (.agg (rowsC zeroX 32 ++ [Value.bool t, Value.int .u64 m, Value.int .u64 a]).toArray) w := fun t m a w => run_build w 42 _ _ (by kernel_rfl)
  have hs : cxC (setX zeroX 32 x) = rowsC zeroX 32 ++ cq x := by
    have h1 : ∀ n, n ≤ 32 → rowsC (setX zeroX 32 x) n = rowsC zeroX n := by
      intro n
      induction n with
      | zero => intro _; rfl
      | succ n ih =>
        intro h
        rw [rowsC, rowsC, ih (by omega)]
        congr 2
        unfold setX
        rw [if_neg (by omega)]
    have h2 : setX zeroX 32 x 32 = x := if_pos rfl
    show rowsC (setX zeroX 32 x) 32 ++ cq (setX zeroX 32 x 32) = _
    rw [h1 32 (by omega), h2]
  have hb2 : ∀ w, (Instr.build 42 #[(1, .agg (cq x).toArray)]).run Tryz.prog w = .ok (.agg (cxC (setX zeroX 32 x)).toArray) w := fun w => by rw [hs]; exact hb _ _ _ w
  simp (disch := first | assumption | omega | (simp only [szR, fdsC_len, fdsC_all, spC_len, spC_all, cpC_len, vwC_len, cpC_all, vwC_all, lvC_len, lvC_all, cq_len, cq_all, cxC_len, cxC_all] <;> omega) | rfl | decide) only [gen0, gen1, gen2, rulesC, rulesX, litR, bolR, Nat.reduceAdd, Nat.reduceLeDiff, numR, memR, valR, heapR, updR, intR, decR, extR, slR, segR, thenR, pnR, Int.reduceToNat, Int.reduceAdd, Int.reduceSub, Int.reduceLT, Int.reduceLE, Nat.reduceSub, Nat.reduceMul, Nat.reduceEqDiff, cq_sub, hb2, zeroX_cells, cx_over, cx_put, cx_sub]
  exact hK _ (by (repeat first | assumption | exact Ext.refl | apply Ext.alloc | apply Ext.drew | (refine Ext.updN ?_ ?_; (focus first | omega | (simp only [szR] <;> omega))) | (refine Ext.updI ?_ ?_; (focus (simp; done)))))
/-- the context that goes on. -/
def nextX (c : Nat → Cq) : Nat → Cq := setX c 32 ⟨moveT (c 32).t (c 32).m (c 32).a (((c 32).a + 4) % 18446744073709551616), (c 32).m, ((c 32).a + 4) % 18446744073709551616⟩
theorem Next_spec {w : World} {c : Nat → Cq} (hm : (c 32).m < 18446744073709551616) (ha : (c 32).a < 18446744073709551616) {K : Value → World → Prop} (hK : ∀ w', Ext [] w w' → K (.agg (cxC (nextX c)).toArray) w') : callsK Tryz.prog 28 #[.agg (cxC c).toArray] w K := by
  apply F28_ok
  unfold F28
  have e1 : sub (cxC c) 96 3 = cpC (c 32).t (c 32).m (c 32).a := cx_at (c := c) (k := 32) (by omega)
  have g1 : ((w.alloc (.cells (cxC c).toArray 42)).alloc (.cells (cxC zeroX).toArray 42)).heap[w.heap.size]? = some (.cells (cxC c).toArray 42 (0, 0)) := by simp (disch := first | assumption | omega | (simp only [szR, fdsC_len, fdsC_all, spC_len, spC_all, cpC_len, vwC_len, cpC_all, vwC_all, lvC_len, lvC_all, cq_len, cq_all, cxC_len, cxC_all] <;> omega) | rfl | decide) only [gen0, gen1, gen2, rulesC, rulesX, litR, bolR, Nat.reduceAdd, Nat.reduceLeDiff, numR, memR, valR, heapR, updR, intR, decR, extR, slR, segR, thenR, pnR, Int.reduceToNat, Int.reduceAdd, Int.reduceSub, Int.reduceLT, Int.reduceLE, Nat.reduceSub, Nat.reduceMul, Nat.reduceEqDiff]
  have g2 : ((w.alloc (.cells (cxC c).toArray 42)).alloc (.cells (cxC zeroX).toArray 42)).heap[w.heap.size + 1]? = some (.cells (cxC zeroX).toArray 42 (0, 0)) := by simp (disch := first | assumption | omega | (simp only [szR, fdsC_len, fdsC_all, spC_len, spC_all, cpC_len, vwC_len, cpC_all, vwC_all, lvC_len, lvC_all, cq_len, cq_all, cxC_len, cxC_all] <;> omega) | rfl | decide) only [gen0, gen1, gen2, rulesC, rulesX, litR, bolR, Nat.reduceAdd, Nat.reduceLeDiff, numR, memR, valR, heapR, updR, intR, decR, extR, slR, segR, thenR, pnR, Int.reduceToNat, Int.reduceAdd, Int.reduceSub, Int.reduceLT, Int.reduceLE, Nat.reduceSub, Nat.reduceMul, Nat.reduceEqDiff]
  have hx0 : Ext [] w ((w.alloc (.cells (cxC c).toArray 42)).alloc (.cells (cxC zeroX).toArray 42)) := by (repeat first | assumption | exact Ext.refl | apply Ext.alloc | apply Ext.drew | (refine Ext.updN ?_ ?_; (focus first | omega | (simp only [szR] <;> omega))) | (refine Ext.updI ?_ ?_; (focus (simp; done))))
  simp (disch := first | assumption | omega | (simp only [szR, fdsC_len, fdsC_all, spC_len, spC_all, cpC_len, vwC_len, cpC_all, vwC_all, lvC_len, lvC_all, cq_len, cq_all, cxC_len, cxC_all] <;> omega) | rfl | decide) only [gen0, gen1, gen2, rulesC, rulesX, litR, bolR, Nat.reduceAdd, Nat.reduceLeDiff, numR, memR, valR, heapR, updR, intR, decR, extR, slR, segR, thenR, pnR, Int.reduceToNat, Int.reduceAdd, Int.reduceSub, Int.reduceLT, Int.reduceLE, Nat.reduceSub, Nat.reduceMul, Nat.reduceEqDiff, e1, zeroX_cells]
  have hw : IntKind.u64.wrap (((c 32).a : Int) + 4) = ((((c 32).a + 4) % 18446744073709551616 : Nat) : Int) := by
    rw [wrapMod]
    omega
  refine Move_spec hm ha (Nat.mod_lt _ (by decide)) hw fun w1 hx1 => ?_
  have hxa := hx0.trans hx1 (by simp)
  have h1 := hx1.at g1 (by simp)
  have h2 := hx1.at g2 (by simp)
  have l1 := lt_of_at h1
  have l2 := lt_of_at h2
  have e2 : splice (cxC c) 96 (cpC (moveT (c 32).t (c 32).m (c 32).a (((c 32).a + 4) % 18446744073709551616)) (c 32).m (((c 32).a + 4) % 18446744073709551616)) = cxC (nextX c) := cx_with (c := c) (k := 32) (x := ⟨moveT (c 32).t (c 32).m (c 32).a (((c 32).a + 4) % 18446744073709551616), (c 32).m, ((c 32).a + 4) % 18446744073709551616⟩) (by omega)
  simp (disch := first | assumption | omega | (simp only [szR, fdsC_len, fdsC_all, spC_len, spC_all, cpC_len, vwC_len, cpC_all, vwC_all, lvC_len, lvC_all, cq_len, cq_all, cxC_len, cxC_all] <;> omega) | rfl | decide) only [gen0, gen1, gen2, rulesC, rulesX, litR, bolR, Nat.reduceAdd, Nat.reduceLeDiff, numR, memR, valR, heapR, updR, intR, decR, extR, slR, segR, thenR, pnR, Int.reduceToNat, Int.reduceAdd, Int.reduceSub, Int.reduceLT, Int.reduceLE, Nat.reduceSub, Nat.reduceMul, Nat.reduceEqDiff, h1, h2, e2, cx_sub, cx_over, cx_put]
  exact hK _ (by (repeat first | assumption | exact Ext.refl | apply Ext.alloc | apply Ext.drew | (refine Ext.updN ?_ ?_; (focus first | omega | (simp only [szR] <;> omega))) | (refine Ext.updI ?_ ?_; (focus (simp; done)))))
end Go.Proofs.YtplfniijbeinmaaGreat
