/- Tables: frames taken, entries told and cleared; conditions: those of each theorem. -/
import Derived.Test.YtfpcflmgipklcaaTLook
namespace Go.Proofs.Ytfpcflmgipklcaa
open Go.Fx
set_option maxRecDepth 100000
set_option linter.unusedSimpArgs false
set_option linter.unusedVariables false
theorem at_ne {w : World} {a b : Nat} {l l' : Array Value} {E E' : TypeId} (h1 : w.heap[a]? = some (.cells l E (0, 0))) (h2 : w.heap[b]? = some (.cells l' E' (0, 0))) (hE : E ≠ E') : a ≠ b := by
  rintro rfl
  rw [h1] at h2
  simp only [Option.some.injEq, Obj.cells.injEq] at h2
  exact hE h2.2.1
theorem taken_spec {w : World} {r q p n t : Nat} {m g : Nat → Int} (hM : Mem w r q n m g) (hp : w.heap[p]? = some (.cells (plC n t).toArray 82 (0, 0))) (hn : 1 ≤ n ∧ n ≤ 62) (ht : t < 18446744073709551616) {K : Value → World → Prop}
    (h1 : ∀ k w', k < n → t.testBit k = false → (∀ j, j < k → t.testBit j = true) → Mem w' r q n (wipeM m k) (wset4 g k fun _ => 0) → w'.heap[p]? = some (.cells (plC n (t ||| 2 ^ k)).toArray 82 (0, 0)) → Ext [p, q] w w' → K (.tuple #[.int .i64 (k : Nat), .int .i64 0]) w')
    (h2 : ∀ w', (∀ j, j < n → t.testBit j = true) → Ext [] w w' → K (.tuple #[.int .i64 0, .int .i64 15]) w') :
    callsK Try.prog 32 #[.pointer (some ⟨r, 0, none⟩), .pointer (some ⟨p, 0, none⟩)] w K := by
  have hrp : r ≠ p := at_ne hM.head hp (by decide)
  have hqp : q ≠ p := at_ne hM.body.choose_spec.1 hp (by decide)
  apply F32_ok
  unfold F32
  simp (disch := first | assumption | omega | (simp only [szR, tgC_len, tgC_all, entC_len, entC_all, plC_len, plC_all, tbC_len, tbC_all] <;> omega) | rfl | decide) only [gen0, gen1, gen2, rulesM, rulesT, litR, bolR, Nat.reduceAdd, Nat.reduceLeDiff, numR, memR, valR, heapR, updR, intR, decR, extR, slR, segR, thenR, pnR, Int.reduceToNat, Int.reduceAdd, Int.reduceSub, Int.reduceLT, Int.reduceLE, Nat.reduceSub, Nat.reduceMul, Nat.reduceEqDiff]
  refine Take_spec hp hn ht (fun k w' hk hb hj hp' hx => ?_) fun w' hj hx => ?_
  · simp (disch := first | assumption | omega | (simp only [szR, tgC_len, tgC_all, entC_len, entC_all, plC_len, plC_all, tbC_len, tbC_all] <;> omega) | rfl | decide) only [gen0, gen1, gen2, rulesM, rulesT, litR, bolR, Nat.reduceAdd, Nat.reduceLeDiff, numR, memR, valR, heapR, updR, intR, decR, extR, slR, segR, thenR, pnR, Int.reduceToNat, Int.reduceAdd, Int.reduceSub, Int.reduceLT, Int.reduceLE, Nat.reduceSub, Nat.reduceMul, Nat.reduceEqDiff]
    refine Wipe_spec (k := k) (hM.ext hx (by simp; exact hrp) (by simp; exact hqp)) (by omega) hk fun w2 hM2 hx2 => ?_
    simp (disch := first | assumption | omega | (simp only [szR, tgC_len, tgC_all, entC_len, entC_all, plC_len, plC_all, tbC_len, tbC_all] <;> omega) | rfl | decide) only [gen0, gen1, gen2, rulesM, rulesT, litR, bolR, Nat.reduceAdd, Nat.reduceLeDiff, numR, memR, valR, heapR, updR, intR, decR, extR, slR, segR, thenR, pnR, Int.reduceToNat, Int.reduceAdd, Int.reduceSub, Int.reduceLT, Int.reduceLE, Nat.reduceSub, Nat.reduceMul, Nat.reduceEqDiff, joinR]
    exact fun _ => h1 k w2 hk hb hj hM2 (hx2.at hp' (by simp; exact hqp.symm)) ((hx.mono (by simp)).trans hx2 (by simp))
  · simp (disch := first | assumption | omega | (simp only [szR, tgC_len, tgC_all, entC_len, entC_all, plC_len, plC_all, tbC_len, tbC_all] <;> omega) | rfl | decide) only [gen0, gen1, gen2, rulesM, rulesT, litR, bolR, Nat.reduceAdd, Nat.reduceLeDiff, numR, memR, valR, heapR, updR, intR, decR, extR, slR, segR, thenR, pnR, Int.reduceToNat, Int.reduceAdd, Int.reduceSub, Int.reduceLT, Int.reduceLE, Nat.reduceSub, Nat.reduceMul, Nat.reduceEqDiff]
    exact h2 w' hj hx
theorem Get_tab {w0 w : World} {tb r q p n : Nat} {m g : Nat → Int} {t : Nat} {fs : List Nat} {lv : Nat → Nat} {par : Nat → Nat × Nat} (h : Tab w0 w tb r q p n m g t fs) (hT : Tree m n fs lv par) (hfs : 0 < fs.length ∧ fs.length ≤ 64) {va : Nat} (hva : va < 274877906944) {K : Value → World → Prop}
    (hK : ∀ w', Ext [] w w' → K (if leaf (fl (lookW m (fs.headD 0) va)) then .tuple #[.agg (entC (fl (lookW m (fs.headD 0) va)) (fr (lookW m (fs.headD 0) va))).toArray, .bool true] else .tuple #[.agg (entC (fun _ => false) 0).toArray, .bool false]) w') :
    callsK Try.prog 17 #[.pointer (some ⟨tb, 0, none⟩), .int .u64 (va : Nat)] w K := by
  apply F17_ok
  unfold F17
  obtain ⟨f0, l0, hfs0, hf0⟩ := hT.top
  have hat := low_at hT (va := va) (f := f0) (by rw [hfs0]; simp) hf0
  have hh : fs.headD 0 = f0 := by rw [hfs0]; rfl
  have hmay : decide (va < 274877906944) = true := decide_eq_true hva
  have hx0 : Ext [] w (w.alloc (.cells #[.bool false, .bool false, .bool false, .bool false, .bool false, .bool false, .bool false, .bool false, .bool false, .bool false, .bool false, .bool false, .int .u64 0] 40)) := by (repeat first | assumption | exact Ext.refl | apply Ext.alloc | apply Ext.drew | (refine Ext.updN ?_ ?_; (focus first | omega | (simp only [szR] <;> omega))) | (refine Ext.updI ?_ ?_; (focus (simp; done))))
  simp (disch := first | assumption | omega | (simp only [szR, tgC_len, tgC_all, entC_len, entC_all, plC_len, plC_all, tbC_len, tbC_all] <;> omega) | rfl | decide) only [gen0, gen1, gen2, rulesM, rulesT, litR, bolR, Nat.reduceAdd, Nat.reduceLeDiff, numR, memR, valR, heapR, updR, intR, decR, extR, slR, segR, thenR, pnR, Int.reduceToNat, Int.reduceAdd, Int.reduceSub, Int.reduceLT, Int.reduceLE, Nat.reduceSub, Nat.reduceMul, Nat.reduceEqDiff]
  refine tnone_spec (h.step hx0) hfs ?_
  simp (disch := first | assumption | omega | (simp only [szR, tgC_len, tgC_all, entC_len, entC_all, plC_len, plC_all, tbC_len, tbC_all] <;> omega) | rfl | decide) only [gen0, gen1, gen2, rulesM, rulesT, litR, bolR, Nat.reduceAdd, Nat.reduceLeDiff, numR, memR, valR, heapR, updR, intR, decR, extR, slR, segR, thenR, pnR, Int.reduceToNat, Int.reduceAdd, Int.reduceSub, Int.reduceLT, Int.reduceLE, Nat.reduceSub, Nat.reduceMul, Nat.reduceEqDiff, joinBR]
  refine May_spec ?_
  rw [hmay]
  simp (disch := first | assumption | omega | (simp only [szR, tgC_len, tgC_all, entC_len, entC_all, plC_len, plC_all, tbC_len, tbC_all] <;> omega) | rfl | decide) only [gen0, gen1, gen2, rulesM, rulesT, litR, bolR, Nat.reduceAdd, Nat.reduceLeDiff, numR, memR, valR, heapR, updR, intR, decR, extR, slR, segR, thenR, pnR, Int.reduceToNat, Int.reduceAdd, Int.reduceSub, Int.reduceLT, Int.reduceLE, Nat.reduceSub, Nat.reduceMul, Nat.reduceEqDiff, joinBR]
  refine lowest_spec (h.step hx0) hT (by omega) fun w1 hx1 => ?_
  rw [hh] at hK ⊢
  have hs1 := hx1.size
  simp only [szR] at hs1
  have hk1 := kept0 hx1
  have hw1 : Ext [] w w1 := hx0.trans hx1 (by simp)
  have hcz : ([.bool false, .bool false, .bool false, .bool false, .bool false, .bool false, .bool false, .bool false, .bool false, .bool false, .bool false, .bool false, .int .u64 (0 : Int)] : List Value) = entC (fun _ => false) 0 := rfl
  have hc1 : w1.heap[w.heap.size]? = some (.cells (entC (fun _ => false) 0).toArray 40 (0, 0)) := by rw [← hcz]; simp (disch := first | assumption | omega | (simp only [szR, tgC_len, tgC_all, entC_len, entC_all, plC_len, plC_all, tbC_len, tbC_all] <;> omega) | rfl | decide) only [gen0, gen1, gen2, rulesM, rulesT, litR, bolR, Nat.reduceAdd, Nat.reduceLeDiff, numR, memR, valR, heapR, updR, intR, decR, extR, slR, segR, thenR, pnR, Int.reduceToNat, Int.reduceAdd, Int.reduceSub, Int.reduceLT, Int.reduceLE, Nat.reduceSub, Nat.reduceMul, Nat.reduceEqDiff, hk1]
  unfold lookW at hK
  have hb0 : ∀ w, (Instr.build 40 #[]).run Try.prog w = .ok (.agg (entC (fun _ => false) 0).toArray) w := fun w => run_build w 40 _ _ (by kernel_rfl)
  cases hok : (low m va 2 f0).2.2
  · rw [hok] at hK
    simp only [Bool.false_eq_true, if_false, leaf, fl_zero, Bool.false_and] at hK
    simp (disch := first | assumption | omega | (simp only [szR, tgC_len, tgC_all, entC_len, entC_all, plC_len, plC_all, tbC_len, tbC_all] <;> omega) | rfl | decide) only [gen0, gen1, gen2, rulesM, rulesT, litR, bolR, Nat.reduceAdd, Nat.reduceLeDiff, numR, memR, valR, heapR, updR, intR, decR, extR, slR, segR, thenR, pnR, Int.reduceToNat, Int.reduceAdd, Int.reduceSub, Int.reduceLT, Int.reduceLE, Nat.reduceSub, Nat.reduceMul, Nat.reduceEqDiff, hok, hb0, hc1, Bool.not_false, splice_over, ent_drop, entC_sub]
    exact hK _ (by (repeat first | assumption | exact Ext.refl | apply Ext.alloc | apply Ext.drew | (refine Ext.updN ?_ ?_; (focus first | omega | (simp only [szR] <;> omega))) | (refine Ext.updI ?_ ?_; (focus (simp; done)))))
  · rw [hok] at hK
    simp only [if_true] at hK
    have hl0 : (low m va 2 f0).2.1 = 0 := by
      have := hat.2.2.2.1
      rw [hok] at this
      exact of_decide_eq_true this.symm
    rw [hl0]
    simp (disch := first | assumption | omega | (simp only [szR, tgC_len, tgC_all, entC_len, entC_all, plC_len, plC_all, tbC_len, tbC_all] <;> omega) | rfl | decide) only [gen0, gen1, gen2, rulesM, rulesT, litR, bolR, Nat.reduceAdd, Nat.reduceLeDiff, numR, memR, valR, heapR, updR, intR, decR, extR, slR, segR, thenR, pnR, Int.reduceToNat, Int.reduceAdd, Int.reduceSub, Int.reduceLT, Int.reduceLE, Nat.reduceSub, Nat.reduceMul, Nat.reduceEqDiff, hok, Bool.not_true]
    refine at_spec (h.step hw1) (hT.lt _ hat.1) (idx_lt _ _) fun w2 hx2 => ?_
    have hs2 := hx2.size
    have hk2 := kept0 hx2
    have hw2 := hw1.trans hx2 (by simp)
    obtain ⟨x, hx⟩ : ∃ x, x = ew m (low m va 2 f0).1 (idx va 0) := ⟨_, rfl⟩
    rw [← hx] at hK ⊢
    simp (disch := first | assumption | omega | (simp only [szR, tgC_len, tgC_all, entC_len, entC_all, plC_len, plC_all, tbC_len, tbC_all] <;> omega) | rfl | decide) only [gen0, gen1, gen2, rulesM, rulesT, litR, bolR, Nat.reduceAdd, Nat.reduceLeDiff, numR, memR, valR, heapR, updR, intR, decR, extR, slR, segR, thenR, pnR, Int.reduceToNat, Int.reduceAdd, Int.reduceSub, Int.reduceLT, Int.reduceLE, Nat.reduceSub, Nat.reduceMul, Nat.reduceEqDiff, ent_drop0, ent_drop, entC_sub]
    refine Leaf_spec fun w3 hx3 => ?_
    have hs3 := hx3.size
    simp only [szR] at hs3
    have hk3 := kept0 hx3
    have hw3 : Ext [] w w3 := Ext.trans (S := []) (by (repeat first | assumption | exact Ext.refl | apply Ext.alloc | apply Ext.drew | (refine Ext.updN ?_ ?_; (focus first | omega | (simp only [szR] <;> omega))) | (refine Ext.updI ?_ ?_; (focus (simp; done))))) hx3 (by simp)
    cases hlf : leaf (fl x)
    · rw [hlf] at hK
      simp only [Bool.false_eq_true, if_false] at hK
      simp (disch := first | assumption | omega | (simp only [szR, tgC_len, tgC_all, entC_len, entC_all, plC_len, plC_all, tbC_len, tbC_all] <;> omega) | rfl | decide) only [gen0, gen1, gen2, rulesM, rulesT, litR, bolR, Nat.reduceAdd, Nat.reduceLeDiff, numR, memR, valR, heapR, updR, intR, decR, extR, slR, segR, thenR, pnR, Int.reduceToNat, Int.reduceAdd, Int.reduceSub, Int.reduceLT, Int.reduceLE, Nat.reduceSub, Nat.reduceMul, Nat.reduceEqDiff, hb0, hc1, hk2, hk3, Bool.not_false, ent_drop, entC_sub]
      exact hK _ (by (repeat first | assumption | exact Ext.refl | apply Ext.alloc | apply Ext.drew | (refine Ext.updN ?_ ?_; (focus first | omega | (simp only [szR] <;> omega))) | (refine Ext.updI ?_ ?_; (focus (simp; done)))))
    · rw [hlf] at hK
      simp only [if_true] at hK
      simp (disch := first | assumption | omega | (simp only [szR, tgC_len, tgC_all, entC_len, entC_all, plC_len, plC_all, tbC_len, tbC_all] <;> omega) | rfl | decide) only [gen0, gen1, gen2, rulesM, rulesT, litR, bolR, Nat.reduceAdd, Nat.reduceLeDiff, numR, memR, valR, heapR, updR, intR, decR, extR, slR, segR, thenR, pnR, Int.reduceToNat, Int.reduceAdd, Int.reduceSub, Int.reduceLT, Int.reduceLE, Nat.reduceSub, Nat.reduceMul, Nat.reduceEqDiff, hb0, hc1, hk2, hk3, Bool.not_true, ent_drop, entC_sub]
      exact hK _ (by (repeat first | assumption | exact Ext.refl | apply Ext.alloc | apply Ext.drew | (refine Ext.updN ?_ ?_; (focus first | omega | (simp only [szR] <;> omega))) | (refine Ext.updI ?_ ?_; (focus (simp; done)))))
end Go.Proofs.Ytfpcflmgipklcaa
