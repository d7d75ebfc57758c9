/- What a capability tells: both texts; conditions: those of each theorem. -/
import Derived.Test.YtgnibcaflidjmaaBounds2
namespace Go.Proofs.Ytgnibcaflidjmaa
open Go.Fx
set_option maxRecDepth 100000
set_option linter.unusedSimpArgs false
set_option linter.unusedVariables false
theorem spC_len (o : Option (Nat × Nat)) : (spC o).length = 2 := by simp [spC]
theorem spC_all (o : Option (Nat × Nat)) : (spC o).all (fun v => v.oneCell') = true := by simp [spC]; exact ⟨rfl, rfl⟩
theorem spC_sub (o : Option (Nat × Nat)) : sub (spC o) 0 2 = spC o := rfl
theorem spC_over (o : Option (Nat × Nat)) : splice [.int .u64 0, .int .u64 0] 0 (spC o) = spC o := rfl
theorem spC_put (o : Option (Nat × Nat)) : spC o ++ List.drop (spC o).length [.int .u64 0, .int .u64 0] = spC o := by simp [spC]
theorem RDecode_spec {w : World} {B T E a : Nat} (hB : B < 16384) (hT : T < 4096) (hE : E < 64) (ha : a < 18446744073709551616) {K : Value → World → Prop} (hK : ∀ w', Ext [] w w' → K (.tuple #[.agg (spC (spn B T E a)).toArray, .bool (spn B T E a).isSome]) w') :
    callsK Try.prog 73 #[.agg (fdsC B T E).toArray, .int .u64 a] w K := by
  apply F73_ok
  unfold F73
  by_cases h37 : 37 < E ∨ 281474976710656 ≤ a
  · have e : spn B T E a = none := by unfold spn; rw [if_pos h37]
    rw [e] at hK
    simp only [spC_none] at hK
    by_cases h1 : 37 < E
    · simp (disch := first | assumption | omega | (simp only [szR, fdsC_len, fdsC_all, wdsC_len, wdsC_all, spC_len, spC_all] <;> omega) | rfl | decide) only [gen0, gen1, gen2, rulesC, litR, bolR, Nat.reduceAdd, Nat.reduceLeDiff, numR, memR, valR, heapR, updR, intR, decR, extR, slR, segR, thenR, pnR, Int.reduceToNat, Int.reduceAdd, Int.reduceSub, Int.reduceLT, Int.reduceLE, Nat.reduceSub, Nat.reduceMul, Nat.reduceEqDiff, joinBR, fdsC_at]
      exact hK _ (by (repeat first | assumption | exact Ext.refl | apply Ext.alloc | apply Ext.drew | (refine Ext.updN ?_ ?_; (focus first | omega | (simp only [szR] <;> omega))) | (refine Ext.updI ?_ ?_; (focus (simp; done)))))
    · simp (disch := first | assumption | omega | (simp only [szR, fdsC_len, fdsC_all, wdsC_len, wdsC_all, spC_len, spC_all] <;> omega) | rfl | decide) only [gen0, gen1, gen2, rulesC, litR, bolR, Nat.reduceAdd, Nat.reduceLeDiff, numR, memR, valR, heapR, updR, intR, decR, extR, slR, segR, thenR, pnR, Int.reduceToNat, Int.reduceAdd, Int.reduceSub, Int.reduceLT, Int.reduceLE, Nat.reduceSub, Nat.reduceMul, Nat.reduceEqDiff, joinBR, fdsC_at]
      exact hK _ (by (repeat first | assumption | exact Ext.refl | apply Ext.alloc | apply Ext.drew | (refine Ext.updN ?_ ?_; (focus first | omega | (simp only [szR] <;> omega))) | (refine Ext.updI ?_ ?_; (focus (simp; done)))))
  · have hfd := fdivP (v := a) (E - 1)
    have hfq : (281474976710656 : Int).fdiv (2 ^ (E - 1)) = ((281474976710656 / 2 ^ (E - 1) : Nat) : Int) := fdivP (v := 281474976710656) (E - 1)
    have hqm := Nat.div_mul_le_self 281474976710656 (2 ^ (E - 1))
    have hm1 := fun v => mulP (v := v) (E - 1)
    have hle := Nat.div_le_self a (2 ^ (E - 1))
    have hq1 := Nat.div_le_self 281474976710656 (2 ^ (E - 1))
    have hnl : (T + 16384 - B) % 4096 < 4096 := Nat.mod_lt _ (by decide)
    have hspn : spn B T E a = if a / 2 ^ (E - 1) + 4096 < (a / 2 ^ (E - 1) + 16384 - B + 4096) % 16384 then none
  else if 281474976710656 / 2 ^ (E - 1) < a / 2 ^ (E - 1) + 4096 - (a / 2 ^ (E - 1) + 16384 - B + 4096) % 16384 + ((T + 16384 - B) % 4096 + if 0 < E then 4096 else 0) then none
  else some ((a / 2 ^ (E - 1) + 4096 - (a / 2 ^ (E - 1) + 16384 - B + 4096) % 16384) * 2 ^ (E - 1), (a / 2 ^ (E - 1) + 4096 - (a / 2 ^ (E - 1) + 16384 - B + 4096) % 16384 + ((T + 16384 - B) % 4096 + if 0 < E then 4096 else 0)) * 2 ^ (E - 1)) := by
      unfold spn
      rw [if_neg h37]
    rw [hspn] at hK
    clear hspn
    have en : ((T : Int) + 16384 - B) % 4096 = (((T + 16384 - B) % 4096 : Nat) : Int) := by omega
    simp (disch := first | assumption | omega | (simp only [szR, fdsC_len, fdsC_all, wdsC_len, wdsC_all, spC_len, spC_all] <;> omega) | rfl | decide) only [gen0, gen1, gen2, rulesC, litR, bolR, Nat.reduceAdd, Nat.reduceLeDiff, numR, memR, valR, heapR, updR, intR, decR, extR, slR, segR, thenR, pnR, Int.reduceToNat, Int.reduceAdd, Int.reduceSub, Int.reduceLT, Int.reduceLE, Nat.reduceSub, Nat.reduceMul, Nat.reduceEqDiff, joinBR, fdsC_at]
    refine exponent_spec hE ?_
    simp (disch := first | assumption | omega | (simp only [szR, fdsC_len, fdsC_all, wdsC_len, wdsC_all, spC_len, spC_all] <;> omega) | rfl | decide) only [gen0, gen1, gen2, rulesC, litR, bolR, Nat.reduceAdd, Nat.reduceLeDiff, numR, memR, valR, heapR, updR, intR, decR, extR, slR, segR, thenR, pnR, Int.reduceToNat, Int.reduceAdd, Int.reduceSub, Int.reduceLT, Int.reduceLE, Nat.reduceSub, Nat.reduceMul, Nat.reduceEqDiff, fdsC_at, en]
    refine joinL.intro fun J4 hJ4 => ?_
    have h3 : ∀ n w1, w1 = (w.alloc (.cells (fdsC B T E).toArray 127)).alloc (.cells [.int .u64 0, .int .u64 0].toArray 102) → ∀ hn : n = (T + 16384 - B) % 4096 + (if 0 < E then 4096 else 0), J4 [.int .u64 ((n : Nat) : Int)] w1 := by
      intro n w1 hw1 hn'
      have c2 : w1.heap[w.heap.size]? = some (.cells (fdsC B T E).toArray 127 (0, 0)) := by rw [hw1]; simp (disch := first | assumption | omega | (simp only [szR, fdsC_len, fdsC_all, wdsC_len, wdsC_all, spC_len, spC_all] <;> omega) | rfl | decide) only [gen0, gen1, gen2, rulesC, litR, bolR, Nat.reduceAdd, Nat.reduceLeDiff, numR, memR, valR, heapR, updR, intR, decR, extR, slR, segR, thenR, pnR, Int.reduceToNat, Int.reduceAdd, Int.reduceSub, Int.reduceLT, Int.reduceLE, Nat.reduceSub, Nat.reduceMul, Nat.reduceEqDiff]
      have c4 : w1.heap[w.heap.size + 1]? = some (.cells [.int .u64 0, .int .u64 0].toArray 102 (0, 0)) := by rw [hw1]; simp (disch := first | assumption | omega | (simp only [szR, fdsC_len, fdsC_all, wdsC_len, wdsC_all, spC_len, spC_all] <;> omega) | rfl | decide) only [gen0, gen1, gen2, rulesC, litR, bolR, Nat.reduceAdd, Nat.reduceLeDiff, numR, memR, valR, heapR, updR, intR, decR, extR, slR, segR, thenR, pnR, Int.reduceToNat, Int.reduceAdd, Int.reduceSub, Int.reduceLT, Int.reduceLE, Nat.reduceSub, Nat.reduceMul, Nat.reduceEqDiff]
      have hx1 : Ext [] w w1 := by rw [hw1]; (repeat first | assumption | exact Ext.refl | apply Ext.alloc | apply Ext.drew | (refine Ext.updN ?_ ?_; (focus first | omega | (simp only [szR] <;> omega))) | (refine Ext.updI ?_ ?_; (focus (simp; done))))
      have l4 := lt_of_at c4
      clear hw1
      rw [← hn'] at hK
      have hn8 : n < 8192 := by rw [hn']; split <;> omega
      clear hn'
      apply hJ4
      intro _
      generalize 2 ^ (E - 1) = p at *
      generalize a / p = at0 at *
      generalize 281474976710656 / p = qq at *
      have hd : ((at0 : Int) + 16384 - B + 4096) % 16384 = (((at0 + 16384 - B + 4096) % 16384 : Nat) : Int) := by omega
      have hd14 : (at0 + 16384 - B + 4096) % 16384 < 16384 := Nat.mod_lt _ (by decide)
      generalize (at0 + 16384 - B + 4096) % 16384 = d at *
      by_cases hlt : at0 + 4096 < d
      · rw [if_pos hlt] at hK
        simp only [spC_none] at hK
        simp (disch := first | assumption | omega | (simp only [szR, fdsC_len, fdsC_all, wdsC_len, wdsC_all, spC_len, spC_all] <;> omega) | rfl | decide) only [gen0, gen1, gen2, rulesC, litR, bolR, Nat.reduceAdd, Nat.reduceLeDiff, numR, memR, valR, heapR, updR, intR, decR, extR, slR, segR, thenR, pnR, Int.reduceToNat, Int.reduceAdd, Int.reduceSub, Int.reduceLT, Int.reduceLE, Nat.reduceSub, Nat.reduceMul, Nat.reduceEqDiff, c2, c4, fdsC_at, hfd, hd]
        exact hK _ (by (repeat first | assumption | exact Ext.refl | apply Ext.alloc | apply Ext.drew | (refine Ext.updN ?_ ?_; (focus first | omega | (simp only [szR] <;> omega))) | (refine Ext.updI ?_ ?_; (focus (simp; done)))))
      · rw [if_neg hlt] at hK
        have e57 : (at0 : Int) + 4096 - (d : Int) = ((at0 + 4096 - d : Nat) : Int) := by omega
        by_cases hq2 : qq < at0 + 4096 - d + n
        · rw [if_pos hq2] at hK
          simp only [spC_none] at hK
          generalize at0 + 4096 - d = bs at *
          simp (disch := first | assumption | omega | (simp only [szR, fdsC_len, fdsC_all, wdsC_len, wdsC_all, spC_len, spC_all] <;> omega) | rfl | decide) only [gen0, gen1, gen2, rulesC, litR, bolR, Nat.reduceAdd, Nat.reduceLeDiff, numR, memR, valR, heapR, updR, intR, decR, extR, slR, segR, thenR, pnR, Int.reduceToNat, Int.reduceAdd, Int.reduceSub, Int.reduceLT, Int.reduceLE, Nat.reduceSub, Nat.reduceMul, Nat.reduceEqDiff, c2, c4, fdsC_at, hfd, hfq, hd, e57]
          exact hK _ (by (repeat first | assumption | exact Ext.refl | apply Ext.alloc | apply Ext.drew | (refine Ext.updN ?_ ?_; (focus first | omega | (simp only [szR] <;> omega))) | (refine Ext.updI ?_ ?_; (focus (simp; done)))))
        · rw [if_neg hq2] at hK
          generalize at0 + 4096 - d = bs at *
          have hmb : (bs + n) * p ≤ qq * p := Nat.mul_le_mul_right _ (by omega)
          have hmb2 : bs * p ≤ (bs + n) * p := Nat.mul_le_mul_right _ (by omega)
          have e60 : (bs : Int) + (n : Int) = ((bs + n : Nat) : Int) := by omega
          have hs1 := hm1 bs (by omega)
          have hs2 := hm1 (bs + n) (by omega)
          have hK' : ∀ w', Ext [] w w' → K (.tuple #[.agg [.int .u64 ((bs * p : Nat) : Int), .int .u64 (((bs + n) * p : Nat) : Int)].toArray, .bool true]) w' := hK
          clear hK
          simp (disch := first | assumption | omega | (simp only [szR, fdsC_len, fdsC_all, wdsC_len, wdsC_all, spC_len, spC_all] <;> omega) | rfl | decide) only [gen0, gen1, gen2, rulesC, litR, bolR, Nat.reduceAdd, Nat.reduceLeDiff, numR, memR, valR, heapR, updR, intR, decR, extR, slR, segR, thenR, pnR, Int.reduceToNat, Int.reduceAdd, Int.reduceSub, Int.reduceLT, Int.reduceLE, Nat.reduceSub, Nat.reduceMul, Nat.reduceEqDiff, c2, c4, fdsC_at, hfd, hfq, hd, e57, e60, hs1, hs2]
          exact hK' _ (by (repeat first | assumption | exact Ext.refl | apply Ext.alloc | apply Ext.drew | (refine Ext.updN ?_ ?_; (focus first | omega | (simp only [szR] <;> omega))) | (refine Ext.updI ?_ ?_; (focus (simp; done)))))
    clear hJ4 hK
    by_cases hE0 : 0 < E
    · have e5 : (((T + 16384 - B) % 4096 : Nat) : Int) + 4096 = (((T + 16384 - B) % 4096 + 4096 : Nat) : Int) := by omega
      simp (disch := first | assumption | omega | (simp only [szR, fdsC_len, fdsC_all, wdsC_len, wdsC_all, spC_len, spC_all] <;> omega) | rfl | decide) only [gen0, gen1, gen2, rulesC, litR, bolR, Nat.reduceAdd, Nat.reduceLeDiff, numR, memR, valR, heapR, updR, intR, decR, extR, slR, segR, thenR, pnR, Int.reduceToNat, Int.reduceAdd, Int.reduceSub, Int.reduceLT, Int.reduceLE, Nat.reduceSub, Nat.reduceMul, Nat.reduceEqDiff, fdsC_at, e5]
      exact h3 _ _ rfl (by rw [if_pos hE0])
    · obtain rfl : E = 0 := by omega
      simp (disch := first | assumption | omega | (simp only [szR, fdsC_len, fdsC_all, wdsC_len, wdsC_all, spC_len, spC_all] <;> omega) | rfl | decide) only [gen0, gen1, gen2, rulesC, litR, bolR, Nat.reduceAdd, Nat.reduceLeDiff, numR, memR, valR, heapR, updR, intR, decR, extR, slR, segR, thenR, pnR, Int.reduceToNat, Int.reduceAdd, Int.reduceSub, Int.reduceLT, Int.reduceLE, Nat.reduceSub, Nat.reduceMul, Nat.reduceEqDiff, fdsC_at]
      exact h3 _ _ rfl rfl
theorem fields_spec {w : World} {m : Nat} (hm : m < 18446744073709551616) {K : Value → World → Prop} (hK : ∀ w', Ext [] w w' → K (.agg (fdsC (m % 16384) (m / 16384 % 4096) (m / 67108864 % 64)).toArray) w') : callsK Try.prog 74 #[.int .u64 m] w K := by
  have e0 : (m : Int) % 16384 = ((m % 16384 : Nat) : Int) := by omega
  have e1 : (m : Int).fdiv (2 ^ 14) = ((m / 16384 : Nat) : Int) := fdivP (v := m) 14
  have e2 : (m : Int).fdiv (2 ^ 26) = ((m / 67108864 : Nat) : Int) := fdivP (v := m) 26
  have e3 : ((m / 16384 : Nat) : Int) % 4096 = ((m / 16384 % 4096 : Nat) : Int) := by omega
  have e4 : ((m / 67108864 : Nat) : Int) % 64 = ((m / 67108864 % 64 : Nat) : Int) := by omega
  simp only [fdsC] at hK
  apply F74_ok
  unfold F74
  simp (disch := first | assumption | omega | (simp only [szR, fdsC_len, fdsC_all, wdsC_len, wdsC_all, spC_len, spC_all] <;> omega) | rfl | decide) only [gen0, gen1, gen2, rulesC, litR, bolR, Nat.reduceAdd, Nat.reduceLeDiff, numR, memR, valR, heapR, updR, intR, decR, extR, slR, segR, thenR, pnR, Int.reduceToNat, Int.reduceAdd, Int.reduceSub, Int.reduceLT, Int.reduceLE, Nat.reduceSub, Nat.reduceMul, Nat.reduceEqDiff, e0, e1, e2, e3, e4]
  exact hK _ (by (repeat first | assumption | exact Ext.refl | apply Ext.alloc | apply Ext.drew | (refine Ext.updN ?_ ?_; (focus first | omega | (simp only [szR] <;> omega))) | (refine Ext.updI ?_ ?_; (focus (simp; done)))))
/-- the span of a capability's number beside its address. -/
def spM (m a : Nat) : Option (Nat × Nat) := spn (m % 16384) (m / 16384 % 4096) (m / 67108864 % 64) a
def cpC (t : Bool) (m a : Nat) : List Value := [.bool t, .int .u64 m, .int .u64 a]
def vwC (m a : Nat) : List Value := [.int .u64 (spB (spM m a) : Nat), .int .u64 (spT (spM m a) : Nat), .int .u64 (m / 4294967296 % 512 : Nat), .int .u64 (m / 281474976710656 % 4096 : Nat)]
theorem Look_spec {w : World} {t : Bool} {m a : Nat} (hm : m < 18446744073709551616) (ha : a < 18446744073709551616) {K : Value → World → Prop} (hK : ∀ w', Ext [] w w' → K (.tuple #[.agg (vwC m a).toArray, .bool (spM m a).isSome]) w') :
    callsK Try.prog 56 #[.agg (cpC t m a).toArray] w K := by
  have hB : m % 16384 < 16384 := Nat.mod_lt _ (by decide)
  have hT : m / 16384 % 4096 < 4096 := Nat.mod_lt _ (by decide)
  have hE : m / 67108864 % 64 < 64 := Nat.mod_lt _ (by decide)
  apply F56_ok
  unfold F56
  simp only [cpC]
  simp (disch := first | assumption | omega | (simp only [szR, fdsC_len, fdsC_all, wdsC_len, wdsC_all, spC_len, spC_all] <;> omega) | rfl | decide) only [gen0, gen1, gen2, rulesC, litR, bolR, Nat.reduceAdd, Nat.reduceLeDiff, numR, memR, valR, heapR, updR, intR, decR, extR, slR, segR, thenR, pnR, Int.reduceToNat, Int.reduceAdd, Int.reduceSub, Int.reduceLT, Int.reduceLE, Nat.reduceSub, Nat.reduceMul, Nat.reduceEqDiff]
  refine joinL.intro fun J0 hJ0 => ?_
  have hfin : ∀ b4 w1, w1.heap[w.heap.size]? = some (.cells [.bool t, .int .u64 m, .int .u64 a].toArray 33 (0, 0)) → w1.heap[w.heap.size + 1]? = some (.cells [.int .u64 0, .int .u64 0, .int .u64 0, .int .u64 0].toArray 113 (0, 0)) → w.heap.size + 1 < b4 → w1.heap[b4]? = some (.cells (spC (spM m a)).toArray 47 (0, 0)) → Ext [] w w1 → J0 [.pointer (some ⟨b4, 0, none⟩), .bool (spM m a).isSome] w1 := by
    intro b4 w1 c1 c2 hb4 c4 hx1
    have l4 := lt_of_at c4
    simp only [spC] at c4
    have hK' : ∀ w', Ext [] w w' → K (.tuple #[.agg [.int .u64 (spB (spM m a) : Nat), .int .u64 (spT (spM m a) : Nat), .int .u64 ((m / 2 ^ 32 % 2 ^ 9 : Nat) : Int), .int .u64 ((m / 2 ^ 48 % 2 ^ 12 : Nat) : Int)].toArray, .bool (spM m a).isSome]) w' := hK
    clear hK
    generalize (spM m a).isSome = ok at *
    generalize spB (spM m a) = sb at *
    generalize spT (spM m a) = st at *
    apply hJ0
    intro _
    clear hJ0
    simp (disch := first | assumption | omega | (simp only [szR, fdsC_len, fdsC_all, wdsC_len, wdsC_all, spC_len, spC_all] <;> omega) | rfl | decide) only [gen0, gen1, gen2, rulesC, litR, bolR, Nat.reduceAdd, Nat.reduceLeDiff, numR, memR, valR, heapR, updR, intR, decR, extR, slR, segR, thenR, pnR, Int.reduceToNat, Int.reduceAdd, Int.reduceSub, Int.reduceLT, Int.reduceLE, Nat.reduceSub, Nat.reduceMul, Nat.reduceEqDiff, c1, c2, c4]
    repeat' (with_reducible apply And.intro)
    all_goals
      refine fGet_spec (by omega) (by omega) (by omega) hm fun w2 hx2 => ?_
      have d1 := hx2.at c1 (by simp)
      have d2 := hx2.at c2 (by simp)
      have d4 := hx2.at c4 (by simp)
      simp (disch := first | assumption | omega | (simp only [szR, fdsC_len, fdsC_all, wdsC_len, wdsC_all, spC_len, spC_all] <;> omega) | rfl | decide) only [gen0, gen1, gen2, rulesC, litR, bolR, Nat.reduceAdd, Nat.reduceLeDiff, numR, memR, valR, heapR, updR, intR, decR, extR, slR, segR, thenR, pnR, Int.reduceToNat, Int.reduceAdd, Int.reduceSub, Int.reduceLT, Int.reduceLE, Nat.reduceSub, Nat.reduceMul, Nat.reduceEqDiff, d1, d2, d4]
      repeat' (with_reducible apply And.intro)
    all_goals
      refine fGet_spec (by omega) (by omega) (by omega) hm fun w3 hx3 => ?_
      have e1 := hx3.at d1 (by simp)
      have e2 := hx3.at d2 (by simp)
      have e4 := hx3.at d4 (by simp)
      have hxw2 : Ext [] w w2 := Ext.trans (S := []) (by (repeat first | assumption | exact Ext.refl | apply Ext.alloc | apply Ext.drew | (refine Ext.updN ?_ ?_; (focus first | omega | (simp only [szR] <;> omega))) | (refine Ext.updI ?_ ?_; (focus (simp; done))))) hx2 (by simp)
      have hxw3 : Ext [] w w3 := Ext.trans (S := []) (by (repeat first | assumption | exact Ext.refl | apply Ext.alloc | apply Ext.drew | (refine Ext.updN ?_ ?_; (focus first | omega | (simp only [szR] <;> omega))) | (refine Ext.updI ?_ ?_; (focus (simp; done))))) hx3 (by simp)
      have l2 := lt_of_at e2
      simp (disch := first | assumption | omega | (simp only [szR, fdsC_len, fdsC_all, wdsC_len, wdsC_all, spC_len, spC_all] <;> omega) | rfl | decide) only [gen0, gen1, gen2, rulesC, litR, bolR, Nat.reduceAdd, Nat.reduceLeDiff, numR, memR, valR, heapR, updR, intR, decR, extR, slR, segR, thenR, pnR, Int.reduceToNat, Int.reduceAdd, Int.reduceSub, Int.reduceLT, Int.reduceLE, Nat.reduceSub, Nat.reduceMul, Nat.reduceEqDiff, e1, e2, e4]
      exact hK' _ (by (repeat first | assumption | exact Ext.refl | apply Ext.alloc | apply Ext.drew | (refine Ext.updN ?_ ?_; (focus first | omega | (simp only [szR] <;> omega))) | (refine Ext.updI ?_ ?_; (focus (simp; done)))))
  clear hJ0 hK
  simp (disch := first | assumption | omega | (simp only [szR, fdsC_len, fdsC_all, wdsC_len, wdsC_all, spC_len, spC_all] <;> omega) | rfl | decide) only [gen0, gen1, gen2, rulesC, litR, bolR, Nat.reduceAdd, Nat.reduceLeDiff, numR, memR, valR, heapR, updR, intR, decR, extR, slR, segR, thenR, pnR, Int.reduceToNat, Int.reduceAdd, Int.reduceSub, Int.reduceLT, Int.reduceLE, Nat.reduceSub, Nat.reduceMul, Nat.reduceEqDiff]
  repeat' (with_reducible apply And.intro)
  all_goals
    refine BOf_spec hm fun w2 hx2 => ?_
    have hk2 := kept0 hx2
    have c1 : w2.heap[w.heap.size]? = some (.cells [.bool t, .int .u64 m, .int .u64 a].toArray 33 (0, 0)) := (by first | with_reducible rfl | assumption | (simp (disch := first | assumption | omega | (simp only [szR, fdsC_len, fdsC_all, wdsC_len, wdsC_all, spC_len, spC_all] <;> omega) | rfl | decide) only [gen0, gen1, gen2, rulesC, litR, bolR, Nat.reduceAdd, Nat.reduceLeDiff, numR, memR, valR, heapR, updR, intR, decR, extR, slR, segR, thenR, pnR, Int.reduceToNat, Int.reduceAdd, Int.reduceSub, Int.reduceLT, Int.reduceLE, Nat.reduceSub, Nat.reduceMul, Nat.reduceEqDiff, hk2] <;> rfl))
    have c2 : w2.heap[w.heap.size + 1]? = some (.cells [.int .u64 0, .int .u64 0, .int .u64 0, .int .u64 0].toArray 113 (0, 0)) := (by first | with_reducible rfl | assumption | (simp (disch := first | assumption | omega | (simp only [szR, fdsC_len, fdsC_all, wdsC_len, wdsC_all, spC_len, spC_all] <;> omega) | rfl | decide) only [gen0, gen1, gen2, rulesC, litR, bolR, Nat.reduceAdd, Nat.reduceLeDiff, numR, memR, valR, heapR, updR, intR, decR, extR, slR, segR, thenR, pnR, Int.reduceToNat, Int.reduceAdd, Int.reduceSub, Int.reduceLT, Int.reduceLE, Nat.reduceSub, Nat.reduceMul, Nat.reduceEqDiff, hk2] <;> rfl))
    have l2 := lt_of_at c2
    have hs2 := hx2.size
    try simp only [szR] at hs2
    have hxw2 : Ext [] w w2 := Ext.trans (S := []) (by (repeat first | assumption | exact Ext.refl | apply Ext.alloc | apply Ext.drew | (refine Ext.updN ?_ ?_; (focus first | omega | (simp only [szR] <;> omega))) | (refine Ext.updI ?_ ?_; (focus (simp; done))))) hx2 (by simp)
    simp (disch := first | assumption | omega | (simp only [szR, fdsC_len, fdsC_all, wdsC_len, wdsC_all, spC_len, spC_all] <;> omega) | rfl | decide) only [gen0, gen1, gen2, rulesC, litR, bolR, Nat.reduceAdd, Nat.reduceLeDiff, numR, memR, valR, heapR, updR, intR, decR, extR, slR, segR, thenR, pnR, Int.reduceToNat, Int.reduceAdd, Int.reduceSub, Int.reduceLT, Int.reduceLE, Nat.reduceSub, Nat.reduceMul, Nat.reduceEqDiff, c1]
    repeat' (with_reducible apply And.intro)
  all_goals
    refine Decode_spec hB hT hE ha fun w3 hx3 => ?_
    have hk3 := kept0 hx3
    have hs3 := hx3.size
    try simp only [szR] at hs3
    have hx23 : Ext [] w2 w3 := Ext.trans (S := []) (by (repeat first | assumption | exact Ext.refl | apply Ext.alloc | apply Ext.drew | (refine Ext.updN ?_ ?_; (focus first | omega | (simp only [szR] <;> omega))) | (refine Ext.updI ?_ ?_; (focus (simp; done))))) hx3 (by simp)
    have d1 := hx23.at c1 (by simp)
    have d2 := hx23.at c2 (by simp)
    have hxw3 := hxw2.trans hx23 (by simp)
    simp (disch := first | assumption | omega | (simp only [szR, fdsC_len, fdsC_all, wdsC_len, wdsC_all, spC_len, spC_all] <;> omega) | rfl | decide) only [gen0, gen1, gen2, rulesC, litR, bolR, Nat.reduceAdd, Nat.reduceLeDiff, numR, memR, valR, heapR, updR, intR, decR, extR, slR, segR, thenR, pnR, Int.reduceToNat, Int.reduceAdd, Int.reduceSub, Int.reduceLT, Int.reduceLE, Nat.reduceSub, Nat.reduceMul, Nat.reduceEqDiff, hk3, hk2, spC_over]
    refine hfin _ _ (by first | with_reducible rfl | assumption | (simp (disch := first | assumption | omega | (simp only [szR, fdsC_len, fdsC_all, wdsC_len, wdsC_all, spC_len, spC_all] <;> omega) | rfl | decide) only [gen0, gen1, gen2, rulesC, litR, bolR, Nat.reduceAdd, Nat.reduceLeDiff, numR, memR, valR, heapR, updR, intR, decR, extR, slR, segR, thenR, pnR, Int.reduceToNat, Int.reduceAdd, Int.reduceSub, Int.reduceLT, Int.reduceLE, Nat.reduceSub, Nat.reduceMul, Nat.reduceEqDiff, d1] <;> rfl)) (by first | with_reducible rfl | assumption | (simp (disch := first | assumption | omega | (simp only [szR, fdsC_len, fdsC_all, wdsC_len, wdsC_all, spC_len, spC_all] <;> omega) | rfl | decide) only [gen0, gen1, gen2, rulesC, litR, bolR, Nat.reduceAdd, Nat.reduceLeDiff, numR, memR, valR, heapR, updR, intR, decR, extR, slR, segR, thenR, pnR, Int.reduceToNat, Int.reduceAdd, Int.reduceSub, Int.reduceLT, Int.reduceLE, Nat.reduceSub, Nat.reduceMul, Nat.reduceEqDiff, d2] <;> rfl)) ?_ ?_ ?_
    · first | omega | (simp only [szR] <;> omega)
    · first | ((first | with_reducible rfl | assumption | (simp (disch := first | assumption | omega | (simp only [szR, fdsC_len, fdsC_all, wdsC_len, wdsC_all, spC_len, spC_all] <;> omega) | rfl | decide) only [gen0, gen1, gen2, rulesC, litR, bolR, Nat.reduceAdd, Nat.reduceLeDiff, numR, memR, valR, heapR, updR, intR, decR, extR, slR, segR, thenR, pnR, Int.reduceToNat, Int.reduceAdd, Int.reduceSub, Int.reduceLT, Int.reduceLE, Nat.reduceSub, Nat.reduceMul, Nat.reduceEqDiff, hk3, hk2, spC_put, spC_over] <;> try rfl)); done) | exact congrArg (fun l : List Value => some (Obj.cells l.toArray 47 (0, 0))) (spC_put _)
    · (repeat first | assumption | exact Ext.refl | apply Ext.alloc | apply Ext.drew | (refine Ext.updN ?_ ?_; (focus first | omega | (simp only [szR] <;> omega))) | (refine Ext.updI ?_ ?_; (focus (simp; done))))
end Go.Proofs.Ytgnibcaflidjmaa
