/- An instruction's name, the program's; the document's rows; conditions: those of each theorem. -/
import Derived.Test.YtgnibcaflidjmaaInsts
namespace Go.Proofs.Ytgnibcaflidjmaa
open Go.Fx
set_option maxRecDepth 100000
set_option linter.unusedSimpArgs false
set_option linter.unusedVariables false
theorem rows75_spec {w : World} {K : Value → World → Prop} (hK : ∀ w', Ext [] w w' → K (.agg (instC .u64).toArray) w') : callsK Try.prog 75 #[] w K := by
  apply F75_ok
  unfold F75
  obtain ⟨z, hz, hzl⟩ : ∃ z : List Value, Try.zeroCells130 = z.toArray ∧ z.length = 345 := ⟨Try.zeroCells130.toList, by simp, by kernel_rfl⟩
  have hs : splice z 0 (instC .u64) = instC .u64 := by rw [splice, List.take_zero, List.nil_append, Nat.zero_add, List.drop_eq_nil_of_le (by rw [hzl, instC_len]; decide), List.append_nil]
  have hsub : sub (instC .u64) 0 345 = instC .u64 := by
    rw [sub, List.drop_zero, List.take_of_length_le (by rw [instC_len]; decide)]
  have hzle : 0 + (instC .u64).length ≤ z.length := by rw [hzl, instC_len]; decide
  have hall := instC_all .u64
  simp (disch := first | assumption | omega | (simp only [szR, List.length_append, List.length_cons, List.length_nil, instC_len, instC_all, ofC_len, ofC_all] <;> omega) | rfl | decide) only [gen0, gen1, gen2, rulesC, litR, bolR, Nat.reduceAdd, Nat.reduceLeDiff, numR, memR, valR, heapR, updR, intR, decR, extR, slR, segR, thenR, pnR, Int.reduceToNat, Int.reduceAdd, Int.reduceSub, Int.reduceLT, Int.reduceLE, Nat.reduceSub, Nat.reduceMul, Nat.reduceEqDiff, hz, bl130, hs, hsub]
  exact hK _ (by (repeat first | assumption | exact Ext.refl | apply Ext.alloc | apply Ext.drew | (refine Ext.updN ?_ ?_; (focus first | omega | (simp only [szR] <;> omega))) | (refine Ext.updI ?_ ?_; (focus (simp; done)))))
theorem rows33_spec {w : World} {K : Value → World → Prop} (hK : ∀ b w', Ext [] w w' → w'.heap[b]? = some (.cells (instC .u32).toArray 77 (0, 0)) → K (.slice (some ⟨b, 0, none⟩) 69 69) w') : callsK Try.prog 33 #[] w K := by
  apply F33_ok
  unfold F33
  simp (disch := first | assumption | omega | (simp only [szR, List.length_append, List.length_cons, List.length_nil, instC_len, instC_all, ofC_len, ofC_all] <;> omega) | rfl | decide) only [gen0, gen1, gen2, rulesC, litR, bolR, Nat.reduceAdd, Nat.reduceLeDiff, numR, memR, valR, heapR, updR, intR, decR, extR, slR, segR, thenR, pnR, Int.reduceToNat, Int.reduceAdd, Int.reduceSub, Int.reduceLT, Int.reduceLE, Nat.reduceSub, Nat.reduceMul, Nat.reduceEqDiff, bs73]
  exact hK _ _ (by (repeat first | assumption | exact Ext.refl | apply Ext.alloc | apply Ext.drew | (refine Ext.updN ?_ ?_; (focus first | omega | (simp only [szR] <;> omega))) | (refine Ext.updI ?_ ?_; (focus (simp; done))))) (alloc_at rfl)
theorem run_indexN {P : Program} {t e : TypeId} {n m : Nat} (h : P.underlying t = some (.array n e)) (ha : ∀ w, (isAgg e).run P w = .ok true w) (hs : ∀ w, (sizeOf e).run P w = .ok m w) (vs : List Value) (k : IntKind) (i : Int) (w : World) (hi : 0 ≤ i ∧ i < n) :
    (Instr.index t (.agg vs.toArray) (.int k i)).run P w = .ok (.agg (sub vs (i.toNat * m) m).toArray) w := by
  have hp := partN (P := P) (t := e) (xs := vs.toArray) (o := i.toNat * m) (n := m) (w := w) ha hs
  have hx : vs.toArray.extract (i.toNat * m) (i.toNat * m + m) = (sub vs (i.toNat * m) m).toArray := by
    rw [List.extract_toArray, List.extract_eq_take_drop, sub, Nat.add_sub_cancel_left]
  simp only [Instr.index, asIntOf, Sem.run_bind, Sem.run_pure, Result.andThen_ok, run_underlying h, hi, and_self, if_true, hs, hp, hx]
/-- a row's cells, when there is one. -/
def ofC (k : Int) : List Value := if 1 ≤ k ∧ k ≤ 69 then rC .u64 (rowT.getD (k - 1).toNat ([], 0, 0, 0, 0)) else [.string ⟨#[]⟩, .int .u8 0, .int .u64 0, .int .u64 0, .int .u64 0]
theorem ofC_len (k : Int) : (ofC k).length = 5 := by unfold ofC; split <;> rfl
theorem ofC_all (k : Int) : (ofC k).all (fun v => v.oneCell') = true := by
  unfold ofC
  split <;> rfl
theorem ofC_sub (k : Int) : sub (ofC k) 0 5 = ofC k := by unfold ofC; split <;> rfl
theorem ofC_over (k : Int) : splice [.string ⟨#[]⟩, .int .u8 0, .int .u64 0, .int .u64 0, .int .u64 0] 0 (ofC k) = ofC k := by unfold ofC; split <;> rfl
theorem ofC_get (k : Int) : (ofC k)[0]? = some (.string (strOfNums (instL k))) := by
  unfold ofC instL; split <;> rfl
theorem of_spec {w : World} {k : Int} {K : Value → World → Prop} (hK : ∀ b w', Ext [] w w' → K (.tuple #[.agg (ofC k).toArray, .bool b]) w') : callsK Try.prog 55 #[.int .i64 k] w K := by
  apply F55_ok
  unfold F55
  by_cases h : 1 ≤ k ∧ k ≤ 69
  · have e : ofC k = rC .u64 (rowT.getD (k - 1).toNat ([], 0, 0, 0, 0)) := by rw [ofC, if_pos h]
    have hix : ∀ w : World, (Instr.index 130 (.agg (instC .u64).toArray) (.int .i64 (k - 1))).run Try.prog w = .ok (.agg (ofC k).toArray) w := fun w => by
      rw [run_indexN (P := Try.prog) (t := 130) (n := 69) (m := 5) Try.underlying130 Try.isAgg109 Try.sizeOf109 (instC .u64) .i64 (k - 1) w (by omega), instC_get (by omega), e]
    have h1 : ¬ k < 1 := by omega
    have h2 : ¬ 69 < k := by omega
    simp (disch := first | assumption | omega | (simp only [szR, List.length_append, List.length_cons, List.length_nil, instC_len, instC_all, ofC_len, ofC_all] <;> omega) | rfl | decide) only [gen0, gen1, gen2, rulesC, litR, bolR, Nat.reduceAdd, Nat.reduceLeDiff, numR, memR, valR, heapR, updR, intR, decR, extR, slR, segR, thenR, pnR, Int.reduceToNat, Int.reduceAdd, Int.reduceSub, Int.reduceLT, Int.reduceLE, Nat.reduceSub, Nat.reduceMul, Nat.reduceEqDiff, joinBR]
    refine rows75_spec fun w1 hx1 => ?_
    have hk1 := kept0 hx1
    have hs1 := hx1.size
    try simp only [szR] at hs1
    have hx : Ext [] w w1 := Ext.trans (S := []) (by (repeat first | assumption | exact Ext.refl | apply Ext.alloc | apply Ext.drew | (refine Ext.updN ?_ ?_; (focus first | omega | (simp only [szR] <;> omega))) | (refine Ext.updI ?_ ?_; (focus (simp; done))))) hx1 (by simp)
    simp (disch := first | assumption | omega | (simp only [szR, List.length_append, List.length_cons, List.length_nil, instC_len, instC_all, ofC_len, ofC_all] <;> omega) | rfl | decide) only [gen0, gen1, gen2, rulesC, litR, bolR, Nat.reduceAdd, Nat.reduceLeDiff, numR, memR, valR, heapR, updR, intR, decR, extR, slR, segR, thenR, pnR, Int.reduceToNat, Int.reduceAdd, Int.reduceSub, Int.reduceLT, Int.reduceLE, Nat.reduceSub, Nat.reduceMul, Nat.reduceEqDiff, joinBR, hix, hk1, ofC_len, ofC_sub, ofC_over]
    exact hK _ _ (by (repeat first | assumption | exact Ext.refl | apply Ext.alloc | apply Ext.drew | (refine Ext.updN ?_ ?_; (focus first | omega | (simp only [szR] <;> omega))) | (refine Ext.updI ?_ ?_; (focus (simp; done)))))
  · have e : ofC k = [.string ⟨#[]⟩, .int .u8 0, .int .u64 0, .int .u64 0, .int .u64 0] := by rw [ofC, if_neg h]
    rw [e] at hK
    by_cases h1 : k < 1
    · simp (disch := first | assumption | omega | (simp only [szR, List.length_append, List.length_cons, List.length_nil, instC_len, instC_all, ofC_len, ofC_all] <;> omega) | rfl | decide) only [gen0, gen1, gen2, rulesC, litR, bolR, Nat.reduceAdd, Nat.reduceLeDiff, numR, memR, valR, heapR, updR, intR, decR, extR, slR, segR, thenR, pnR, Int.reduceToNat, Int.reduceAdd, Int.reduceSub, Int.reduceLT, Int.reduceLE, Nat.reduceSub, Nat.reduceMul, Nat.reduceEqDiff, joinBR]
      exact hK _ _ (by (repeat first | assumption | exact Ext.refl | apply Ext.alloc | apply Ext.drew | (refine Ext.updN ?_ ?_; (focus first | omega | (simp only [szR] <;> omega))) | (refine Ext.updI ?_ ?_; (focus (simp; done)))))
    · have h2 : 69 < k := by omega
      simp (disch := first | assumption | omega | (simp only [szR, List.length_append, List.length_cons, List.length_nil, instC_len, instC_all, ofC_len, ofC_all] <;> omega) | rfl | decide) only [gen0, gen1, gen2, rulesC, litR, bolR, Nat.reduceAdd, Nat.reduceLeDiff, numR, memR, valR, heapR, updR, intR, decR, extR, slR, segR, thenR, pnR, Int.reduceToNat, Int.reduceAdd, Int.reduceSub, Int.reduceLT, Int.reduceLE, Nat.reduceSub, Nat.reduceMul, Nat.reduceEqDiff, joinBR]
      exact hK _ _ (by (repeat first | assumption | exact Ext.refl | apply Ext.alloc | apply Ext.drew | (refine Ext.updN ?_ ?_; (focus first | omega | (simp only [szR] <;> omega))) | (refine Ext.updI ?_ ?_; (focus (simp; done)))))
theorem Name_spec {w : World} {k : Int} {K : Value → World → Prop} (hK : ∀ w', Ext [] w w' → K (.string (strOfNums (instL k))) w') : callsK Try.prog 37 #[.int .i64 k] w K := by
  apply F37_ok
  unfold F37
  simp (disch := first | assumption | omega | (simp only [szR, List.length_append, List.length_cons, List.length_nil, instC_len, instC_all, ofC_len, ofC_all] <;> omega) | rfl | decide) only [gen0, gen1, gen2, rulesC, litR, bolR, Nat.reduceAdd, Nat.reduceLeDiff, numR, memR, valR, heapR, updR, intR, decR, extR, slR, segR, thenR, pnR, Int.reduceToNat, Int.reduceAdd, Int.reduceSub, Int.reduceLT, Int.reduceLE, Nat.reduceSub, Nat.reduceMul, Nat.reduceEqDiff]
  refine of_spec fun b w1 hx1 => ?_
  have hk1 := kept0 hx1
  have hs1 := hx1.size
  try simp only [szR] at hs1
  simp (disch := first | assumption | omega | (simp only [szR, List.length_append, List.length_cons, List.length_nil, instC_len, instC_all, ofC_len, ofC_all] <;> omega) | rfl | decide) only [gen0, gen1, gen2, rulesC, litR, bolR, Nat.reduceAdd, Nat.reduceLeDiff, numR, memR, valR, heapR, updR, intR, decR, extR, slR, segR, thenR, pnR, Int.reduceToNat, Int.reduceAdd, Int.reduceSub, Int.reduceLT, Int.reduceLE, Nat.reduceSub, Nat.reduceMul, Nat.reduceEqDiff, hk1, ofC_len, ofC_sub, ofC_over, ofC_get]
  exact hK _ (by (repeat first | assumption | exact Ext.refl | apply Ext.alloc | apply Ext.drew | (refine Ext.updN ?_ ?_; (focus first | omega | (simp only [szR] <;> omega))) | (refine Ext.updI ?_ ?_; (focus (simp; done)))))
end Go.Proofs.Ytgnibcaflidjmaa
