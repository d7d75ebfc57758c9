/- What a capability tells: both texts; conditions: those of each theorem. -/
import Derived.Test.YtplfniijbeinmaaGreatBounds2
namespace Go.Proofs.YtplfniijbeinmaaGreat
open Go.Fx
set_option maxRecDepth 100000
set_option linter.unusedSimpArgs false
set_option linter.unusedVariables false
theorem spC_len (o : Option (Nat × Nat)) : (spC o).length = 2 := by simp [spC]
theorem spC_all (o : Option (Nat × Nat)) : (spC o).all (fun v => v.oneCell') = true := by simp [spC]; exact ⟨rfl, rfl⟩
theorem spC_sub (o : Option (Nat × Nat)) : sub (spC o) 0 2 = spC o := rfl
theorem spC_over (o : Option (Nat × Nat)) : splice [.int .u64 0, .int .u64 0] 0 (spC o) = spC o := rfl
theorem spC_put (o : Option (Nat × Nat)) : spC o ++ List.drop (spC o).length [.int .u64 0, .int .u64 0] = spC o := by simp [spC]
def spM (m a : Nat) : Option (Nat × Nat) := spn (m % 16384) (m / 16384 % 4096) (m / 67108864 % 64) a
def cpC (t : Bool) (m a : Nat) : List Value := [.bool t, .int .u64 m, .int .u64 a]
def vwC (m a : Nat) : List Value := [.int .u64 (spB (spM m a) : Nat), .int .u64 (spT (spM m a) : Nat), .int .u64 (m / 4294967296 % 512 : Nat), .int .u64 (m / 281474976710656 % 4096 : Nat)]
theorem Look_spec {w : World} {t : Bool} {m a : Nat} (hm : m < 18446744073709551616) (ha : a < 18446744073709551616) {K : Value → World → Prop} (hK : ∀ w', Ext [] w w' → K (.tuple #[.agg (vwC m a).toArray, .bool (spM m a).isSome]) w') :
    callsK Tryz.prog 15 #[.agg (cpC t m a).toArray] w K := by
  have hB : m % 16384 < 16384 := Nat.mod_lt _ (by decide)
  have hT : m / 16384 % 4096 < 4096 := Nat.mod_lt _ (by decide)
  have hE : m / 67108864 % 64 < 64 := Nat.mod_lt _ (by decide)
  apply F15_ok
  unfold F15
  simp only [cpC]
  simp (disch := first | assumption | omega | (simp only [szR, fdsC_len, fdsC_all, wdsC_len, wdsC_all, spC_len, spC_all] <;> omega) | rfl | decide) only [gen0, gen1, gen2, rulesC, litR, bolR, Nat.reduceAdd, Nat.reduceLeDiff, numR, memR, valR, heapR, updR, intR, decR, extR, slR, segR, thenR, pnR, Int.reduceToNat, Int.reduceAdd, Int.reduceSub, Int.reduceLT, Int.reduceLE, Nat.reduceSub, Nat.reduceMul, Nat.reduceEqDiff]
  refine joinL.intro fun J0 hJ0 => ?_
  have hfin : ∀ b4 w1, w1.heap[w.heap.size]? = some (.cells [.bool t, .int .u64 m, .int .u64 a].toArray 24 (0, 0)) → w1.heap[w.heap.size + 1]? = some (.cells [.int .u64 0, .int .u64 0, .int .u64 0, .int .u64 0].toArray 28 (0, 0)) → w.heap.size + 1 < b4 → w1.heap[b4]? = some (.cells (spC (spM m a)).toArray 26 (0, 0)) → Ext [] w w1 → J0 [.pointer (some ⟨b4, 0, none⟩), .bool (spM m a).isSome] w1 := by
    intro b4 w1 c1 c2 hb4 c4 hx1
    have l4 := lt_of_at c4
    simp only [spC] at c4
    have hK' : ∀ w', Ext [] w w' → K (.tuple #[.agg [.int .u64 (spB (spM m a) : Nat), .int .u64 (spT (spM m a) : Nat), .int .u64 ((m / 2 ^ 32 % 2 ^ 9 : Nat) : Int), .int .u64 ((m / 2 ^ 48 % 2 ^ 12 : Nat) : Int)].toArray, .bool (spM m a).isSome]) w' := hK
    clear hK
    generalize (spM m a).isSome = ok at *
    generalize spB (spM m a) = sb at *
    generalize spT (spM m a) = st at *
    apply hJ0
    intro _
    clear hJ0
    simp (disch := first | assumption | omega | (simp only [szR, fdsC_len, fdsC_all, wdsC_len, wdsC_all, spC_len, spC_all] <;> omega) | rfl | decide) only [gen0, gen1, gen2, rulesC, litR, bolR, Nat.reduceAdd, Nat.reduceLeDiff, numR, memR, valR, heapR, updR, intR, decR, extR, slR, segR, thenR, pnR, Int.reduceToNat, Int.reduceAdd, Int.reduceSub, Int.reduceLT, Int.reduceLE, Nat.reduceSub, Nat.reduceMul, Nat.reduceEqDiff, c1, c2, c4]
    repeat' (with_reducible apply And.intro)
    all_goals
      refine fGet_spec (by omega) (by omega) (by omega) hm fun w2 hx2 => ?_
      have d1 := hx2.at c1 (by simp)
      have d2 := hx2.at c2 (by simp)
      have d4 := hx2.at c4 (by simp)
      simp (disch := first | assumption | omega | (simp only [szR, fdsC_len, fdsC_all, wdsC_len, wdsC_all, spC_len, spC_all] <;> omega) | rfl | decide) only [gen0, gen1, gen2, rulesC, litR, bolR, Nat.reduceAdd, Nat.reduceLeDiff, numR, memR, valR, heapR, updR, intR, decR, extR, slR, segR, thenR, pnR, Int.reduceToNat, Int.reduceAdd, Int.reduceSub, Int.reduceLT, Int.reduceLE, Nat.reduceSub, Nat.reduceMul, Nat.reduceEqDiff, d1, d2, d4]
      repeat' (with_reducible apply And.intro)
    all_goals
      refine fGet_spec (by omega) (by omega) (by omega) hm fun w3 hx3 => ?_
      have e1 := hx3.at d1 (by simp)
      have e2 := hx3.at d2 (by simp)
      have e4 := hx3.at d4 (by simp)
      have hxw2 : Ext [] w w2 := Ext.trans (S := []) (by (repeat first | assumption | exact Ext.refl | apply Ext.alloc | apply Ext.drew | (refine Ext.updN ?_ ?_; (focus first | omega | (simp only [szR] <;> omega))) | (refine Ext.updI ?_ ?_; (focus (simp; done))))) hx2 (by simp)
      have hxw3 : Ext [] w w3 := Ext.trans (S := []) (by (repeat first | assumption | exact Ext.refl | apply Ext.alloc | apply Ext.drew | (refine Ext.updN ?_ ?_; (focus first | omega | (simp only [szR] <;> omega))) | (refine Ext.updI ?_ ?_; (focus (simp; done))))) hx3 (by simp)
      have l2 := lt_of_at e2
      simp (disch := first | assumption | omega | (simp only [szR, fdsC_len, fdsC_all, wdsC_len, wdsC_all, spC_len, spC_all] <;> omega) | rfl | decide) only [gen0, gen1, gen2, rulesC, litR, bolR, Nat.reduceAdd, Nat.reduceLeDiff, numR, memR, valR, heapR, updR, intR, decR, extR, slR, segR, thenR, pnR, Int.reduceToNat, Int.reduceAdd, Int.reduceSub, Int.reduceLT, Int.reduceLE, Nat.reduceSub, Nat.reduceMul, Nat.reduceEqDiff, e1, e2, e4]
      exact hK' _ (by (repeat first | assumption | exact Ext.refl | apply Ext.alloc | apply Ext.drew | (refine Ext.updN ?_ ?_; (focus first | omega | (simp only [szR] <;> omega))) | (refine Ext.updI ?_ ?_; (focus (simp; done)))))
  clear hJ0 hK
  simp (disch := first | assumption | omega | (simp only [szR, fdsC_len, fdsC_all, wdsC_len, wdsC_all, spC_len, spC_all] <;> omega) | rfl | decide) only [gen0, gen1, gen2, rulesC, litR, bolR, Nat.reduceAdd, Nat.reduceLeDiff, numR, memR, valR, heapR, updR, intR, decR, extR, slR, segR, thenR, pnR, Int.reduceToNat, Int.reduceAdd, Int.reduceSub, Int.reduceLT, Int.reduceLE, Nat.reduceSub, Nat.reduceMul, Nat.reduceEqDiff]
  repeat' (with_reducible apply And.intro)
  all_goals
    refine BOf_spec hm fun w2 hx2 => ?_
    have hk2 := kept0 hx2
    have c1 : w2.heap[w.heap.size]? = some (.cells [.bool t, .int .u64 m, .int .u64 a].toArray 24 (0, 0)) := (by first | with_reducible rfl | assumption | (simp (disch := first | assumption | omega | (simp only [szR, fdsC_len, fdsC_all, wdsC_len, wdsC_all, spC_len, spC_all] <;> omega) | rfl | decide) only [gen0, gen1, gen2, rulesC, litR, bolR, Nat.reduceAdd, Nat.reduceLeDiff, numR, memR, valR, heapR, updR, intR, decR, extR, slR, segR, thenR, pnR, Int.reduceToNat, Int.reduceAdd, Int.reduceSub, Int.reduceLT, Int.reduceLE, Nat.reduceSub, Nat.reduceMul, Nat.reduceEqDiff, hk2] <;> rfl))
    have c2 : w2.heap[w.heap.size + 1]? = some (.cells [.int .u64 0, .int .u64 0, .int .u64 0, .int .u64 0].toArray 28 (0, 0)) := (by first | with_reducible rfl | assumption | (simp (disch := first | assumption | omega | (simp only [szR, fdsC_len, fdsC_all, wdsC_len, wdsC_all, spC_len, spC_all] <;> omega) | rfl | decide) only [gen0, gen1, gen2, rulesC, litR, bolR, Nat.reduceAdd, Nat.reduceLeDiff, numR, memR, valR, heapR, updR, intR, decR, extR, slR, segR, thenR, pnR, Int.reduceToNat, Int.reduceAdd, Int.reduceSub, Int.reduceLT, Int.reduceLE, Nat.reduceSub, Nat.reduceMul, Nat.reduceEqDiff, hk2] <;> rfl))
    have l2 := lt_of_at c2
    have hs2 := hx2.size
    try simp only [szR] at hs2
    have hxw2 : Ext [] w w2 := Ext.trans (S := []) (by (repeat first | assumption | exact Ext.refl | apply Ext.alloc | apply Ext.drew | (refine Ext.updN ?_ ?_; (focus first | omega | (simp only [szR] <;> omega))) | (refine Ext.updI ?_ ?_; (focus (simp; done))))) hx2 (by simp)
    simp (disch := first | assumption | omega | (simp only [szR, fdsC_len, fdsC_all, wdsC_len, wdsC_all, spC_len, spC_all] <;> omega) | rfl | decide) only [gen0, gen1, gen2, rulesC, litR, bolR, Nat.reduceAdd, Nat.reduceLeDiff, numR, memR, valR, heapR, updR, intR, decR, extR, slR, segR, thenR, pnR, Int.reduceToNat, Int.reduceAdd, Int.reduceSub, Int.reduceLT, Int.reduceLE, Nat.reduceSub, Nat.reduceMul, Nat.reduceEqDiff, c1]
    repeat' (with_reducible apply And.intro)
  all_goals
    refine Decode_spec hB hT hE ha fun w3 hx3 => ?_
    have hk3 := kept0 hx3
    have hs3 := hx3.size
    try simp only [szR] at hs3
    have hx23 : Ext [] w2 w3 := Ext.trans (S := []) (by (repeat first | assumption | exact Ext.refl | apply Ext.alloc | apply Ext.drew | (refine Ext.updN ?_ ?_; (focus first | omega | (simp only [szR] <;> omega))) | (refine Ext.updI ?_ ?_; (focus (simp; done))))) hx3 (by simp)
    have d1 := hx23.at c1 (by simp)
    have d2 := hx23.at c2 (by simp)
    have hxw3 := hxw2.trans hx23 (by simp)
    simp (disch := first | assumption | omega | (simp only [szR, fdsC_len, fdsC_all, wdsC_len, wdsC_all, spC_len, spC_all] <;> omega) | rfl | decide) only [gen0, gen1, gen2, rulesC, litR, bolR, Nat.reduceAdd, Nat.reduceLeDiff, numR, memR, valR, heapR, updR, intR, decR, extR, slR, segR, thenR, pnR, Int.reduceToNat, Int.reduceAdd, Int.reduceSub, Int.reduceLT, Int.reduceLE, Nat.reduceSub, Nat.reduceMul, Nat.reduceEqDiff, hk3, hk2, spC_over]
    refine hfin _ _ (by first | with_reducible rfl | assumption | (simp (disch := first | assumption | omega | (simp only [szR, fdsC_len, fdsC_all, wdsC_len, wdsC_all, spC_len, spC_all] <;> omega) | rfl | decide) only [gen0, gen1, gen2, rulesC, litR, bolR, Nat.reduceAdd, Nat.reduceLeDiff, numR, memR, valR, heapR, updR, intR, decR, extR, slR, segR, thenR, pnR, Int.reduceToNat, Int.reduceAdd, Int.reduceSub, Int.reduceLT, Int.reduceLE, Nat.reduceSub, Nat.reduceMul, Nat.reduceEqDiff, d1] <;> rfl)) (by first | with_reducible rfl | assumption | (simp (disch := first | assumption | omega | (simp only [szR, fdsC_len, fdsC_all, wdsC_len, wdsC_all, spC_len, spC_all] <;> omega) | rfl | decide) only [gen0, gen1, gen2, rulesC, litR, bolR, Nat.reduceAdd, Nat.reduceLeDiff, numR, memR, valR, heapR, updR, intR, decR, extR, slR, segR, thenR, pnR, Int.reduceToNat, Int.reduceAdd, Int.reduceSub, Int.reduceLT, Int.reduceLE, Nat.reduceSub, Nat.reduceMul, Nat.reduceEqDiff, d2] <;> rfl)) ?_ ?_ ?_
    · first | omega | (simp only [szR] <;> omega)
    · first | ((first | with_reducible rfl | assumption | (simp (disch := first | assumption | omega | (simp only [szR, fdsC_len, fdsC_all, wdsC_len, wdsC_all, spC_len, spC_all] <;> omega) | rfl | decide) only [gen0, gen1, gen2, rulesC, litR, bolR, Nat.reduceAdd, Nat.reduceLeDiff, numR, memR, valR, heapR, updR, intR, decR, extR, slR, segR, thenR, pnR, Int.reduceToNat, Int.reduceAdd, Int.reduceSub, Int.reduceLT, Int.reduceLE, Nat.reduceSub, Nat.reduceMul, Nat.reduceEqDiff, hk3, hk2, spC_put, spC_over] <;> try rfl)); done) | exact congrArg (fun l : List Value => some (Obj.cells l.toArray 26 (0, 0))) (spC_put _)
    · (repeat first | assumption | exact Ext.refl | apply Ext.alloc | apply Ext.drew | (refine Ext.updN ?_ ?_; (focus first | omega | (simp only [szR] <;> omega))) | (refine Ext.updI ?_ ?_; (focus (simp; done))))
end Go.Proofs.YtplfniijbeinmaaGreat
