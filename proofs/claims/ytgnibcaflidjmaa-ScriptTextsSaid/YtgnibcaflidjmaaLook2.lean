/- What a capability tells, asked for: both texts; conditions: those of each theorem. -/
import Derived.Test.YtgnibcaflidjmaaLook
namespace Go.Proofs.Ytgnibcaflidjmaa
open Go.Fx
set_option maxRecDepth 100000
set_option linter.unusedSimpArgs false
set_option linter.unusedVariables false
theorem cpC_len (t : Bool) (m a : Nat) : (cpC t m a).length = 3 := by simp [cpC]
theorem cpC_all (t : Bool) (m a : Nat) : (cpC t m a).all (fun v => v.oneCell') = true := by simp [cpC]; exact ⟨rfl, rfl, rfl⟩
theorem cpC_sub (t : Bool) (m a : Nat) : sub (cpC t m a) 0 3 = cpC t m a := rfl
theorem vwC_len (m a : Nat) : (vwC m a).length = 4 := by simp [vwC]
theorem vwC_all (m a : Nat) : (vwC m a).all (fun v => v.oneCell') = true := by simp [vwC]; exact ⟨rfl, rfl, rfl, rfl⟩
theorem vwC_sub2 (m a : Nat) : sub (vwC m a) 0 2 = spC (spM m a) := rfl
theorem vwC_put (m a : Nat) : vwC m a ++ List.drop (vwC m a).length [.int .u64 0, .int .u64 0, .int .u64 0, .int .u64 0] = vwC m a := by simp [vwC]
theorem vwC_over (m a : Nat) : splice [.int .u64 0, .int .u64 0, .int .u64 0, .int .u64 0] 0 (vwC m a) = vwC m a := rfl
theorem RLook_spec {w : World} {t : Bool} {m a : Nat} (hm : m < 18446744073709551616) (ha : a < 18446744073709551616) {K : Value → World → Prop} (hK : ∀ w', Ext [] w w' → K (.tuple #[.agg (vwC m a).toArray, .bool (spM m a).isSome]) w') :
    callsK Try.prog 52 #[.agg (cpC t m a).toArray] w K := by
  have hB : m % 16384 < 16384 := Nat.mod_lt _ (by decide)
  have hT : m / 16384 % 4096 < 4096 := Nat.mod_lt _ (by decide)
  have hE : m / 67108864 % 64 < 64 := Nat.mod_lt _ (by decide)
  apply F52_ok
  unfold F52
  simp only [cpC]
  simp (disch := first | assumption | omega | (simp only [szR, fdsC_len, fdsC_all, wdsC_len, wdsC_all, spC_len, spC_all, cpC_len, cpC_all, vwC_len, vwC_all] <;> omega) | rfl | decide) only [gen0, gen1, gen2, rulesC, litR, bolR, Nat.reduceAdd, Nat.reduceLeDiff, numR, memR, valR, heapR, updR, intR, decR, extR, slR, segR, thenR, pnR, Int.reduceToNat, Int.reduceAdd, Int.reduceSub, Int.reduceLT, Int.reduceLE, Nat.reduceSub, Nat.reduceMul, Nat.reduceEqDiff]
  refine joinL.intro fun J0 hJ0 => ?_
  have hfin : ∀ b4 w1, w1.heap[w.heap.size]? = some (.cells [.bool t, .int .u64 m, .int .u64 a].toArray 38 (0, 0)) → w1.heap[w.heap.size + 1]? = some (.cells [.int .u64 0, .int .u64 0, .int .u64 0, .int .u64 0].toArray 104 (0, 0)) → w.heap.size + 1 < b4 → w1.heap[b4]? = some (.cells (spC (spM m a)).toArray 102 (0, 0)) → Ext [] w w1 → J0 [.pointer (some ⟨b4, 0, none⟩), .bool (spM m a).isSome] w1 := by
    intro b4 w1 c1 c2 hb4 c4 hx1
    have l4 := lt_of_at c4
    simp only [spC] at c4
    simp only [vwC] at hK
    have e1 : (m : Int).fdiv (2 ^ 32) = ((m / 4294967296 : Nat) : Int) := fdivP (v := m) 32
    have e2 : (m : Int).fdiv (2 ^ 48) = ((m / 281474976710656 : Nat) : Int) := fdivP (v := m) 48
    have e3 : ((m / 4294967296 : Nat) : Int) % 512 = ((m / 4294967296 % 512 : Nat) : Int) := by omega
    have e4 : ((m / 281474976710656 : Nat) : Int) % 4096 = ((m / 281474976710656 % 4096 : Nat) : Int) := by omega
    generalize (spM m a).isSome = ok at *
    generalize spB (spM m a) = sb at *
    generalize spT (spM m a) = st at *
    apply hJ0
    intro _
    clear hJ0
    simp (disch := first | assumption | omega | (simp only [szR, fdsC_len, fdsC_all, wdsC_len, wdsC_all, spC_len, spC_all, cpC_len, cpC_all, vwC_len, vwC_all] <;> omega) | rfl | decide) only [gen0, gen1, gen2, rulesC, litR, bolR, Nat.reduceAdd, Nat.reduceLeDiff, numR, memR, valR, heapR, updR, intR, decR, extR, slR, segR, thenR, pnR, Int.reduceToNat, Int.reduceAdd, Int.reduceSub, Int.reduceLT, Int.reduceLE, Nat.reduceSub, Nat.reduceMul, Nat.reduceEqDiff, c1, c2, c4, e1, e2, e3, e4]
    exact hK _ (by (repeat first | assumption | exact Ext.refl | apply Ext.alloc | apply Ext.drew | (refine Ext.updN ?_ ?_; (focus first | omega | (simp only [szR] <;> omega))) | (refine Ext.updI ?_ ?_; (focus (simp; done)))))
  clear hJ0 hK
  simp (disch := first | assumption | omega | (simp only [szR, fdsC_len, fdsC_all, wdsC_len, wdsC_all, spC_len, spC_all, cpC_len, cpC_all, vwC_len, vwC_all] <;> omega) | rfl | decide) only [gen0, gen1, gen2, rulesC, litR, bolR, Nat.reduceAdd, Nat.reduceLeDiff, numR, memR, valR, heapR, updR, intR, decR, extR, slR, segR, thenR, pnR, Int.reduceToNat, Int.reduceAdd, Int.reduceSub, Int.reduceLT, Int.reduceLE, Nat.reduceSub, Nat.reduceMul, Nat.reduceEqDiff]
  repeat' (with_reducible apply And.intro)
  all_goals
    refine fields_spec hm fun w2 hx2 => ?_
    have hk2 := kept0 hx2
    have c1 : w2.heap[w.heap.size]? = some (.cells [.bool t, .int .u64 m, .int .u64 a].toArray 38 (0, 0)) := (by first | with_reducible rfl | assumption | (simp (disch := first | assumption | omega | (simp only [szR, fdsC_len, fdsC_all, wdsC_len, wdsC_all, spC_len, spC_all, cpC_len, cpC_all, vwC_len, vwC_all] <;> omega) | rfl | decide) only [gen0, gen1, gen2, rulesC, litR, bolR, Nat.reduceAdd, Nat.reduceLeDiff, numR, memR, valR, heapR, updR, intR, decR, extR, slR, segR, thenR, pnR, Int.reduceToNat, Int.reduceAdd, Int.reduceSub, Int.reduceLT, Int.reduceLE, Nat.reduceSub, Nat.reduceMul, Nat.reduceEqDiff, hk2] <;> rfl))
    have c2 : w2.heap[w.heap.size + 1]? = some (.cells [.int .u64 0, .int .u64 0, .int .u64 0, .int .u64 0].toArray 104 (0, 0)) := (by first | with_reducible rfl | assumption | (simp (disch := first | assumption | omega | (simp only [szR, fdsC_len, fdsC_all, wdsC_len, wdsC_all, spC_len, spC_all, cpC_len, cpC_all, vwC_len, vwC_all] <;> omega) | rfl | decide) only [gen0, gen1, gen2, rulesC, litR, bolR, Nat.reduceAdd, Nat.reduceLeDiff, numR, memR, valR, heapR, updR, intR, decR, extR, slR, segR, thenR, pnR, Int.reduceToNat, Int.reduceAdd, Int.reduceSub, Int.reduceLT, Int.reduceLE, Nat.reduceSub, Nat.reduceMul, Nat.reduceEqDiff, hk2] <;> rfl))
    have l2 := lt_of_at c2
    have hs2 := hx2.size
    try simp only [szR] at hs2
    have hxw2 : Ext [] w w2 := Ext.trans (S := []) (by (repeat first | assumption | exact Ext.refl | apply Ext.alloc | apply Ext.drew | (refine Ext.updN ?_ ?_; (focus first | omega | (simp only [szR] <;> omega))) | (refine Ext.updI ?_ ?_; (focus (simp; done))))) hx2 (by simp)
    simp (disch := first | assumption | omega | (simp only [szR, fdsC_len, fdsC_all, wdsC_len, wdsC_all, spC_len, spC_all, cpC_len, cpC_all, vwC_len, vwC_all] <;> omega) | rfl | decide) only [gen0, gen1, gen2, rulesC, litR, bolR, Nat.reduceAdd, Nat.reduceLeDiff, numR, memR, valR, heapR, updR, intR, decR, extR, slR, segR, thenR, pnR, Int.reduceToNat, Int.reduceAdd, Int.reduceSub, Int.reduceLT, Int.reduceLE, Nat.reduceSub, Nat.reduceMul, Nat.reduceEqDiff, c1]
    repeat' (with_reducible apply And.intro)
  all_goals
    refine RDecode_spec hB hT hE ha fun w3 hx3 => ?_
    have hk3 := kept0 hx3
    have hs3 := hx3.size
    try simp only [szR] at hs3
    have hx23 : Ext [] w2 w3 := Ext.trans (S := []) (by (repeat first | assumption | exact Ext.refl | apply Ext.alloc | apply Ext.drew | (refine Ext.updN ?_ ?_; (focus first | omega | (simp only [szR] <;> omega))) | (refine Ext.updI ?_ ?_; (focus (simp; done))))) hx3 (by simp)
    have d1 := hx23.at c1 (by simp)
    have d2 := hx23.at c2 (by simp)
    have hxw3 := hxw2.trans hx23 (by simp)
    simp (disch := first | assumption | omega | (simp only [szR, fdsC_len, fdsC_all, wdsC_len, wdsC_all, spC_len, spC_all, cpC_len, cpC_all, vwC_len, vwC_all] <;> omega) | rfl | decide) only [gen0, gen1, gen2, rulesC, litR, bolR, Nat.reduceAdd, Nat.reduceLeDiff, numR, memR, valR, heapR, updR, intR, decR, extR, slR, segR, thenR, pnR, Int.reduceToNat, Int.reduceAdd, Int.reduceSub, Int.reduceLT, Int.reduceLE, Nat.reduceSub, Nat.reduceMul, Nat.reduceEqDiff, hk3, hk2, spC_over]
    refine hfin _ _ (by first | with_reducible rfl | assumption | (simp (disch := first | assumption | omega | (simp only [szR, fdsC_len, fdsC_all, wdsC_len, wdsC_all, spC_len, spC_all, cpC_len, cpC_all, vwC_len, vwC_all] <;> omega) | rfl | decide) only [gen0, gen1, gen2, rulesC, litR, bolR, Nat.reduceAdd, Nat.reduceLeDiff, numR, memR, valR, heapR, updR, intR, decR, extR, slR, segR, thenR, pnR, Int.reduceToNat, Int.reduceAdd, Int.reduceSub, Int.reduceLT, Int.reduceLE, Nat.reduceSub, Nat.reduceMul, Nat.reduceEqDiff, d1] <;> rfl)) (by first | with_reducible rfl | assumption | (simp (disch := first | assumption | omega | (simp only [szR, fdsC_len, fdsC_all, wdsC_len, wdsC_all, spC_len, spC_all, cpC_len, cpC_all, vwC_len, vwC_all] <;> omega) | rfl | decide) only [gen0, gen1, gen2, rulesC, litR, bolR, Nat.reduceAdd, Nat.reduceLeDiff, numR, memR, valR, heapR, updR, intR, decR, extR, slR, segR, thenR, pnR, Int.reduceToNat, Int.reduceAdd, Int.reduceSub, Int.reduceLT, Int.reduceLE, Nat.reduceSub, Nat.reduceMul, Nat.reduceEqDiff, d2] <;> rfl)) ?_ ?_ ?_
    · first | omega | (simp only [szR] <;> omega)
    · first | ((first | with_reducible rfl | assumption | (simp (disch := first | assumption | omega | (simp only [szR, fdsC_len, fdsC_all, wdsC_len, wdsC_all, spC_len, spC_all, cpC_len, cpC_all, vwC_len, vwC_all] <;> omega) | rfl | decide) only [gen0, gen1, gen2, rulesC, litR, bolR, Nat.reduceAdd, Nat.reduceLeDiff, numR, memR, valR, heapR, updR, intR, decR, extR, slR, segR, thenR, pnR, Int.reduceToNat, Int.reduceAdd, Int.reduceSub, Int.reduceLT, Int.reduceLE, Nat.reduceSub, Nat.reduceMul, Nat.reduceEqDiff, hk3, hk2, spC_put, spC_over] <;> try rfl)); done) | exact congrArg (fun l : List Value => some (Obj.cells l.toArray 102 (0, 0))) (spC_put _)
    · (repeat first | assumption | exact Ext.refl | apply Ext.alloc | apply Ext.drew | (refine Ext.updN ?_ ?_; (focus first | omega | (simp only [szR] <;> omega))) | (refine Ext.updI ?_ ?_; (focus (simp; done))))
/-! ### the ends -/
theorem base_spec {w : World} {o : Option (Nat × Nat)} {K : Value → World → Prop} (hK : ∀ w', Ext [] w w' → K (.int .u64 (spB o : Nat)) w') : callsK Try.prog 80 #[.agg (spC o).toArray] w K := by
  apply F80_ok
  unfold F80
  simp only [spC]
  simp (disch := first | assumption | omega | (simp only [szR, fdsC_len, fdsC_all, wdsC_len, wdsC_all, spC_len, spC_all, cpC_len, cpC_all, vwC_len, vwC_all] <;> omega) | rfl | decide) only [gen0, gen1, gen2, rulesC, litR, bolR, Nat.reduceAdd, Nat.reduceLeDiff, numR, memR, valR, heapR, updR, intR, decR, extR, slR, segR, thenR, pnR, Int.reduceToNat, Int.reduceAdd, Int.reduceSub, Int.reduceLT, Int.reduceLE, Nat.reduceSub, Nat.reduceMul, Nat.reduceEqDiff]
  exact hK _ (by (repeat first | assumption | exact Ext.refl | apply Ext.alloc | apply Ext.drew | (refine Ext.updN ?_ ?_; (focus first | omega | (simp only [szR] <;> omega))) | (refine Ext.updI ?_ ?_; (focus (simp; done)))))
theorem top_spec {w : World} {o : Option (Nat × Nat)} {K : Value → World → Prop} (hK : ∀ w', Ext [] w w' → K (.int .u64 (spT o : Nat)) w') : callsK Try.prog 81 #[.agg (spC o).toArray] w K := by
  apply F81_ok
  unfold F81
  simp only [spC]
  simp (disch := first | assumption | omega | (simp only [szR, fdsC_len, fdsC_all, wdsC_len, wdsC_all, spC_len, spC_all, cpC_len, cpC_all, vwC_len, vwC_all] <;> omega) | rfl | decide) only [gen0, gen1, gen2, rulesC, litR, bolR, Nat.reduceAdd, Nat.reduceLeDiff, numR, memR, valR, heapR, updR, intR, decR, extR, slR, segR, thenR, pnR, Int.reduceToNat, Int.reduceAdd, Int.reduceSub, Int.reduceLT, Int.reduceLE, Nat.reduceSub, Nat.reduceMul, Nat.reduceEqDiff]
  exact hK _ (by (repeat first | assumption | exact Ext.refl | apply Ext.alloc | apply Ext.drew | (refine Ext.updN ?_ ?_; (focus first | omega | (simp only [szR] <;> omega))) | (refine Ext.updI ?_ ?_; (focus (simp; done)))))
theorem told_spec {w : World} {t : Bool} {m a : Nat} {fn : Fn} {x : Int} (hm : m < 18446744073709551616) (ha : a < 18446744073709551616) (hf : ∀ (w' : World) (K' : Value → World → Prop), (∀ w'', Ext [] w' w'' → K' (.int .u64 x) w'') → kN Try.prog (callN (.func fn #[] #[]) #[.agg (spC (spM m a)).toArray]) w' K')
    {K : Value → World → Prop} (hK : ∀ w', Ext [] w w' → K (.int .u64 x) w') : callsK Try.prog 79 #[.agg (cpC t m a).toArray, .func fn #[] #[]] w K := by
  apply F79_ok
  unfold F79
  simp (disch := first | assumption | omega | (simp only [szR, fdsC_len, fdsC_all, wdsC_len, wdsC_all, spC_len, spC_all, cpC_len, cpC_all, vwC_len, vwC_all] <;> omega) | rfl | decide) only [gen0, gen1, gen2, rulesC, litR, bolR, Nat.reduceAdd, Nat.reduceLeDiff, numR, memR, valR, heapR, updR, intR, decR, extR, slR, segR, thenR, pnR, Int.reduceToNat, Int.reduceAdd, Int.reduceSub, Int.reduceLT, Int.reduceLE, Nat.reduceSub, Nat.reduceMul, Nat.reduceEqDiff, cpC_sub]
  apply F94_ok
  unfold F94
  simp (disch := first | assumption | omega | (simp only [szR, fdsC_len, fdsC_all, wdsC_len, wdsC_all, spC_len, spC_all, cpC_len, cpC_all, vwC_len, vwC_all] <;> omega) | rfl | decide) only [gen0, gen1, gen2, rulesC, litR, bolR, Nat.reduceAdd, Nat.reduceLeDiff, numR, memR, valR, heapR, updR, intR, decR, extR, slR, segR, thenR, pnR, Int.reduceToNat, Int.reduceAdd, Int.reduceSub, Int.reduceLT, Int.reduceLE, Nat.reduceSub, Nat.reduceMul, Nat.reduceEqDiff, cpC_sub]
  refine Look_spec hm ha fun w1 hx1 => ?_
  have hk1 := kept0 hx1
  have hs1 := hx1.size
  try simp only [szR] at hs1
  have hxw1 : Ext [] w w1 := Ext.trans (S := []) (by (repeat first | assumption | exact Ext.refl | apply Ext.alloc | apply Ext.drew | (refine Ext.updN ?_ ?_; (focus first | omega | (simp only [szR] <;> omega))) | (refine Ext.updI ?_ ?_; (focus (simp; done))))) hx1 (by simp)
  have c3 : w1.heap[w.heap.size + 1]? = some (.cells [.func fn #[] #[]].toArray 138 (0, 0)) := (by first | with_reducible rfl | assumption | (simp (disch := first | assumption | omega | (simp only [szR, fdsC_len, fdsC_all, wdsC_len, wdsC_all, spC_len, spC_all, cpC_len, cpC_all, vwC_len, vwC_all] <;> omega) | rfl | decide) only [gen0, gen1, gen2, rulesC, litR, bolR, Nat.reduceAdd, Nat.reduceLeDiff, numR, memR, valR, heapR, updR, intR, decR, extR, slR, segR, thenR, pnR, Int.reduceToNat, Int.reduceAdd, Int.reduceSub, Int.reduceLT, Int.reduceLE, Nat.reduceSub, Nat.reduceMul, Nat.reduceEqDiff, hk1] <;> rfl))
  simp (disch := first | assumption | omega | (simp only [szR, fdsC_len, fdsC_all, wdsC_len, wdsC_all, spC_len, spC_all, cpC_len, cpC_all, vwC_len, vwC_all] <;> omega) | rfl | decide) only [gen0, gen1, gen2, rulesC, litR, bolR, Nat.reduceAdd, Nat.reduceLeDiff, numR, memR, valR, heapR, updR, intR, decR, extR, slR, segR, thenR, pnR, Int.reduceToNat, Int.reduceAdd, Int.reduceSub, Int.reduceLT, Int.reduceLE, Nat.reduceSub, Nat.reduceMul, Nat.reduceEqDiff, vwC_over, vwC_put, vwC_sub2]
  apply F95_ok
  unfold F95
  simp (disch := first | assumption | omega | (simp only [szR, fdsC_len, fdsC_all, wdsC_len, wdsC_all, spC_len, spC_all, cpC_len, cpC_all, vwC_len, vwC_all] <;> omega) | rfl | decide) only [gen0, gen1, gen2, rulesC, litR, bolR, Nat.reduceAdd, Nat.reduceLeDiff, numR, memR, valR, heapR, updR, intR, decR, extR, slR, segR, thenR, pnR, Int.reduceToNat, Int.reduceAdd, Int.reduceSub, Int.reduceLT, Int.reduceLE, Nat.reduceSub, Nat.reduceMul, Nat.reduceEqDiff, c3, spC_sub]
  refine hf _ _ fun w2 hx2 => ?_
  exact hK _ (Ext.trans (S := []) (by (repeat first | assumption | exact Ext.refl | apply Ext.alloc | apply Ext.drew | (refine Ext.updN ?_ ?_; (focus first | omega | (simp only [szR] <;> omega))) | (refine Ext.updI ?_ ?_; (focus (simp; done))))) hx2 (by simp))
theorem Base_spec {w : World} {t : Bool} {m a : Nat} (hm : m < 18446744073709551616) (ha : a < 18446744073709551616) {K : Value → World → Prop} (hK : ∀ w', Ext [] w w' → K (.int .u64 (spB (spM m a) : Nat)) w') : callsK Try.prog 57 #[.agg (cpC t m a).toArray] w K := by
  apply F57_ok
  unfold F57
  simp (disch := first | assumption | omega | (simp only [szR, fdsC_len, fdsC_all, wdsC_len, wdsC_all, spC_len, spC_all, cpC_len, cpC_all, vwC_len, vwC_all] <;> omega) | rfl | decide) only [gen0, gen1, gen2, rulesC, litR, bolR, Nat.reduceAdd, Nat.reduceLeDiff, numR, memR, valR, heapR, updR, intR, decR, extR, slR, segR, thenR, pnR, Int.reduceToNat, Int.reduceAdd, Int.reduceSub, Int.reduceLT, Int.reduceLE, Nat.reduceSub, Nat.reduceMul, Nat.reduceEqDiff, cpC_sub]
  refine told_spec hm ha (x := (spB (spM m a) : Nat)) (fun w' K' h => ?_) fun w' hx => ?_
  · simp (disch := first | assumption | omega | (simp only [szR, fdsC_len, fdsC_all, wdsC_len, wdsC_all, spC_len, spC_all, cpC_len, cpC_all, vwC_len, vwC_all] <;> omega) | rfl | decide) only [gen0, gen1, gen2, rulesC, litR, bolR, Nat.reduceAdd, Nat.reduceLeDiff, numR, memR, valR, heapR, updR, intR, decR, extR, slR, segR, thenR, pnR, Int.reduceToNat, Int.reduceAdd, Int.reduceSub, Int.reduceLT, Int.reduceLE, Nat.reduceSub, Nat.reduceMul, Nat.reduceEqDiff]
    exact base_spec h
  · exact hK _ (Ext.trans (S := []) (by (repeat first | assumption | exact Ext.refl | apply Ext.alloc | apply Ext.drew | (refine Ext.updN ?_ ?_; (focus first | omega | (simp only [szR] <;> omega))) | (refine Ext.updI ?_ ?_; (focus (simp; done))))) hx (by simp))
theorem Top_spec {w : World} {t : Bool} {m a : Nat} (hm : m < 18446744073709551616) (ha : a < 18446744073709551616) {K : Value → World → Prop} (hK : ∀ w', Ext [] w w' → K (.int .u64 (spT (spM m a) : Nat)) w') : callsK Try.prog 58 #[.agg (cpC t m a).toArray] w K := by
  apply F58_ok
  unfold F58
  simp (disch := first | assumption | omega | (simp only [szR, fdsC_len, fdsC_all, wdsC_len, wdsC_all, spC_len, spC_all, cpC_len, cpC_all, vwC_len, vwC_all] <;> omega) | rfl | decide) only [gen0, gen1, gen2, rulesC, litR, bolR, Nat.reduceAdd, Nat.reduceLeDiff, numR, memR, valR, heapR, updR, intR, decR, extR, slR, segR, thenR, pnR, Int.reduceToNat, Int.reduceAdd, Int.reduceSub, Int.reduceLT, Int.reduceLE, Nat.reduceSub, Nat.reduceMul, Nat.reduceEqDiff, cpC_sub]
  refine told_spec hm ha (x := (spT (spM m a) : Nat)) (fun w' K' h => ?_) fun w' hx => ?_
  · simp (disch := first | assumption | omega | (simp only [szR, fdsC_len, fdsC_all, wdsC_len, wdsC_all, spC_len, spC_all, cpC_len, cpC_all, vwC_len, vwC_all] <;> omega) | rfl | decide) only [gen0, gen1, gen2, rulesC, litR, bolR, Nat.reduceAdd, Nat.reduceLeDiff, numR, memR, valR, heapR, updR, intR, decR, extR, slR, segR, thenR, pnR, Int.reduceToNat, Int.reduceAdd, Int.reduceSub, Int.reduceLT, Int.reduceLE, Nat.reduceSub, Nat.reduceMul, Nat.reduceEqDiff]
    exact top_spec h
  · exact hK _ (Ext.trans (S := []) (by (repeat first | assumption | exact Ext.refl | apply Ext.alloc | apply Ext.drew | (refine Ext.updN ?_ ?_; (focus first | omega | (simp only [szR] <;> omega))) | (refine Ext.updI ?_ ?_; (focus (simp; done))))) hx (by simp))
theorem RSpan_spec {w : World} {t : Bool} {m a : Nat} (hm : m < 18446744073709551616) (ha : a < 18446744073709551616) {K : Value → World → Prop} (hK : ∀ w', Ext [] w w' → K (.agg (spC (spM m a)).toArray) w') : callsK Try.prog 53 #[.agg (cpC t m a).toArray] w K := by
  apply F53_ok
  unfold F53
  simp (disch := first | assumption | omega | (simp only [szR, fdsC_len, fdsC_all, wdsC_len, wdsC_all, spC_len, spC_all, cpC_len, cpC_all, vwC_len, vwC_all] <;> omega) | rfl | decide) only [gen0, gen1, gen2, rulesC, litR, bolR, Nat.reduceAdd, Nat.reduceLeDiff, numR, memR, valR, heapR, updR, intR, decR, extR, slR, segR, thenR, pnR, Int.reduceToNat, Int.reduceAdd, Int.reduceSub, Int.reduceLT, Int.reduceLE, Nat.reduceSub, Nat.reduceMul, Nat.reduceEqDiff, cpC_sub]
  refine RLook_spec hm ha fun w1 hx1 => ?_
  have hk1 := kept0 hx1
  have hs1 := hx1.size
  try simp only [szR] at hs1
  have hxw1 : Ext [] w w1 := Ext.trans (S := []) (by (repeat first | assumption | exact Ext.refl | apply Ext.alloc | apply Ext.drew | (refine Ext.updN ?_ ?_; (focus first | omega | (simp only [szR] <;> omega))) | (refine Ext.updI ?_ ?_; (focus (simp; done))))) hx1 (by simp)
  simp (disch := first | assumption | omega | (simp only [szR, fdsC_len, fdsC_all, wdsC_len, wdsC_all, spC_len, spC_all, cpC_len, cpC_all, vwC_len, vwC_all] <;> omega) | rfl | decide) only [gen0, gen1, gen2, rulesC, litR, bolR, Nat.reduceAdd, Nat.reduceLeDiff, numR, memR, valR, heapR, updR, intR, decR, extR, slR, segR, thenR, pnR, Int.reduceToNat, Int.reduceAdd, Int.reduceSub, Int.reduceLT, Int.reduceLE, Nat.reduceSub, Nat.reduceMul, Nat.reduceEqDiff, hk1, vwC_over, vwC_put, vwC_sub2, spC_over, spC_put, spC_sub]
  exact hK _ (by (repeat first | assumption | exact Ext.refl | apply Ext.alloc | apply Ext.drew | (refine Ext.updN ?_ ?_; (focus first | omega | (simp only [szR] <;> omega))) | (refine Ext.updI ?_ ?_; (focus (simp; done)))))
end Go.Proofs.Ytgnibcaflidjmaa
