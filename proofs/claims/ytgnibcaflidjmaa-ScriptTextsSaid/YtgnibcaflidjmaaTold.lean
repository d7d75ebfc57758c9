/- A capability as a text, the document's: the walk; conditions: those of each theorem. -/
import Derived.Test.YtgnibcaflidjmaaTell2
namespace Go.Proofs.Ytgnibcaflidjmaa
open Go.Fx
set_option maxRecDepth 100000
set_option linter.unusedSimpArgs false
set_option linter.unusedVariables false
theorem rtold_spec {w : World} {t : Bool} {m a : Nat} (hm : m < 18446744073709551616) (ha : a < 18446744073709551616) {K : Value → World → Prop} (hK : ∀ w', Ext [] w w' → K (.string (strOfNums (tellL t m a))) w') : callsK Try.prog 34 #[.agg (cpC t m a).toArray] w K := by
  apply G34_ok
  unfold G34
  have hcp : cpC t m a = [.bool t, .int .u64 m, .int .u64 a] := rfl
  cases t with
  | false =>
    rw [hcp]
    simp (disch := first | assumption | omega | (simp only [szR, List.length_append, List.length_cons, List.length_nil, cpC_len, cpC_all, vwC_len, vwC_all, spC_len, spC_all] <;> omega) | rfl | decide) only [gen0, gen1, gen2, rulesC, litR, bolR, Nat.reduceAdd, Nat.reduceLeDiff, numR, memR, valR, heapR, updR, intR, decR, extR, slR, segR, thenR, pnR, Int.reduceToNat, Int.reduceAdd, Int.reduceSub, Int.reduceLT, Int.reduceLE, Nat.reduceSub, Nat.reduceMul, Nat.reduceEqDiff]
    exact rdigs_spec (b := 16) (.inr rfl) _ ha _ _ fun w2 hx2 => hK _ (Ext.trans (S := []) (by (repeat first | assumption | exact Ext.refl | apply Ext.alloc | apply Ext.drew | (refine Ext.updN ?_ ?_; (focus first | omega | (simp only [szR] <;> omega))) | (refine Ext.updI ?_ ?_; (focus (simp; done))))) hx2 (by simp))
  | true =>
    have h0 := spn_lt (m % 16384) (m / 16384 % 4096) (m / 67108864 % 64) a
    have h1 := digs_le (b := 16) (n := spB (spM m a)) (.inr rfl) h0.1
    have h2 := digs_le (b := 16) (n := spT (spM m a)) (.inr rfl) h0.2
    have h3 := ptK_len (m / 4294967296 % 512) 9
    have h4 := digs_le (b := 10) (n := m / 281474976710656 % 4096) (.inl rfl) (by omega)
    have htl : tellL true m a = [91] ++ digs 16 (spB (spM m a)) ++ [45] ++ digs 16 (spT (spM m a)) ++ [32] ++ ptK (m / 4294967296 % 512) 9 ++ [32] ++ digs 10 (m / 281474976710656 % 4096) ++ [93] := rfl
    rw [htl] at hK
    have cat : (cpC true m a)[0]? = some (.bool true) ∧ (cpC true m a)[2]? = some (.int .u64 a) := ⟨rfl, rfl⟩
    have vat : (vwC m a)[2]? = some (.int .u64 (m / 4294967296 % 512 : Nat)) ∧ (vwC m a)[3]? = some (.int .u64 (m / 281474976710656 % 4096 : Nat)) := ⟨rfl, rfl⟩
    have sat : (spC (spM m a))[0]? = some (.int .u64 (spB (spM m a) : Nat)) ∧ (spC (spM m a))[1]? = some (.int .u64 (spT (spM m a) : Nat)) := ⟨rfl, rfl⟩
    simp (disch := first | assumption | omega | (simp only [szR, List.length_append, List.length_cons, List.length_nil, cpC_len, cpC_all, vwC_len, vwC_all, spC_len, spC_all] <;> omega) | rfl | decide) only [gen0, gen1, gen2, rulesC, litR, bolR, Nat.reduceAdd, Nat.reduceLeDiff, numR, memR, valR, heapR, updR, intR, decR, extR, slR, segR, thenR, pnR, Int.reduceToNat, Int.reduceAdd, Int.reduceSub, Int.reduceLT, Int.reduceLE, Nat.reduceSub, Nat.reduceMul, Nat.reduceEqDiff, cat, cpC_sub]
    refine RLook_spec hm ha fun w1 hx1 => ?_
    have hk1 := kept0 hx1
    have hs1 := hx1.size
    try simp only [szR] at hs1
    have hxw1 : Ext [] w w1 := Ext.trans (S := []) (by (repeat first | assumption | exact Ext.refl | apply Ext.alloc | apply Ext.drew | (refine Ext.updN ?_ ?_; (focus first | omega | (simp only [szR] <;> omega))) | (refine Ext.updI ?_ ?_; (focus (simp; done))))) hx1 (by simp)
    have c1 : w1.heap[w.heap.size]? = some (.cells (cpC true m a).toArray 38 (0, 0)) := (by first | with_reducible rfl | assumption | (simp (disch := first | assumption | omega | (simp only [szR, List.length_append, List.length_cons, List.length_nil, cpC_len, cpC_all, vwC_len, vwC_all, spC_len, spC_all] <;> omega) | rfl | decide) only [gen0, gen1, gen2, rulesC, litR, bolR, Nat.reduceAdd, Nat.reduceLeDiff, numR, memR, valR, heapR, updR, intR, decR, extR, slR, segR, thenR, pnR, Int.reduceToNat, Int.reduceAdd, Int.reduceSub, Int.reduceLT, Int.reduceLE, Nat.reduceSub, Nat.reduceMul, Nat.reduceEqDiff, hk1] <;> rfl))
    simp (disch := first | assumption | omega | (simp only [szR, List.length_append, List.length_cons, List.length_nil, cpC_len, cpC_all, vwC_len, vwC_all, spC_len, spC_all] <;> omega) | rfl | decide) only [gen0, gen1, gen2, rulesC, litR, bolR, Nat.reduceAdd, Nat.reduceLeDiff, numR, memR, valR, heapR, updR, intR, decR, extR, slR, segR, thenR, pnR, Int.reduceToNat, Int.reduceAdd, Int.reduceSub, Int.reduceLT, Int.reduceLE, Nat.reduceSub, Nat.reduceMul, Nat.reduceEqDiff, vwC_over, vwC_put, c1, cpC_sub]
    refine RSpan_spec hm ha fun w2 hx2 => ?_
    have hk2 := kept0 hx2
    have hs2 := hx2.size
    try simp only [szR] at hs2
    have hxw2 : Ext [] w w2 := Ext.trans (S := []) (by (repeat first | assumption | exact Ext.refl | apply Ext.alloc | apply Ext.drew | (refine Ext.updN ?_ ?_; (focus first | omega | (simp only [szR] <;> omega))) | (refine Ext.updI ?_ ?_; (focus (simp; done))))) hx2 (by simp)
    have d3 : w2.heap[w1.heap.size]? = some (.cells (vwC m a).toArray 104 (0, 0)) := (by first | with_reducible rfl | assumption | (simp (disch := first | assumption | omega | (simp only [szR, List.length_append, List.length_cons, List.length_nil, cpC_len, cpC_all, vwC_len, vwC_all, spC_len, spC_all] <;> omega) | rfl | decide) only [gen0, gen1, gen2, rulesC, litR, bolR, Nat.reduceAdd, Nat.reduceLeDiff, numR, memR, valR, heapR, updR, intR, decR, extR, slR, segR, thenR, pnR, Int.reduceToNat, Int.reduceAdd, Int.reduceSub, Int.reduceLT, Int.reduceLE, Nat.reduceSub, Nat.reduceMul, Nat.reduceEqDiff, hk2] <;> rfl))
    simp (disch := first | assumption | omega | (simp only [szR, List.length_append, List.length_cons, List.length_nil, cpC_len, cpC_all, vwC_len, vwC_all, spC_len, spC_all] <;> omega) | rfl | decide) only [gen0, gen1, gen2, rulesC, litR, bolR, Nat.reduceAdd, Nat.reduceLeDiff, numR, memR, valR, heapR, updR, intR, decR, extR, slR, segR, thenR, pnR, Int.reduceToNat, Int.reduceAdd, Int.reduceSub, Int.reduceLT, Int.reduceLE, Nat.reduceSub, Nat.reduceMul, Nat.reduceEqDiff, spC_over, spC_put]
    obtain ⟨I, hI⟩ : ∃ I : World → Prop, I = fun w' => Ext [] w w' ∧ w'.heap[w1.heap.size]? = some (.cells (vwC m a).toArray 104 (0, 0)) ∧ w'.heap[w2.heap.size]? = some (.cells (spC (spM m a)).toArray 102 (0, 0)) := ⟨_, rfl⟩
    have keep : ∀ w' w2, I w' → Ext [] w' w2 → I w2 := by
      subst hI
      rintro w' w2 ⟨hx, c3, c5⟩ h
      exact ⟨hx.trans h (by simp), h.at c3 (by simp), h.at c5 (by simp)⟩
    have hu : ∀ w', I w' → Ext [] w w' ∧ w'.heap[w1.heap.size]? = some (.cells (vwC m a).toArray 104 (0, 0)) ∧ w'.heap[w2.heap.size]? = some (.cells (spC (spM m a)).toArray 102 (0, 0)) := by
      subst hI
      exact fun _ h => h
    have Lb : ∀ K : Value → Prop, K (.int .u64 (spB (spM m a) : Nat)) → iV Try.prog I (Instr.loadAt 28 (.pointer (some ⟨w2.heap.size, 0, none⟩))) K := fun K hK => iV.intro _ (fun w' h => by
      obtain ⟨hx, c3, c5⟩ := hu w' h
      simp (disch := first | assumption | omega | (simp only [szR, List.length_append, List.length_cons, List.length_nil, cpC_len, cpC_all, vwC_len, vwC_all, spC_len, spC_all] <;> omega) | rfl | decide) only [gen0, gen1, gen2, rulesC, litR, bolR, Nat.reduceAdd, Nat.reduceLeDiff, numR, memR, valR, heapR, updR, intR, decR, extR, slR, segR, thenR, pnR, Int.reduceToNat, Int.reduceAdd, Int.reduceSub, Int.reduceLT, Int.reduceLE, Nat.reduceSub, Nat.reduceMul, Nat.reduceEqDiff, c5, sat]
      exact ⟨trivial, h⟩) hK
    have Le : ∀ K : Value → Prop, K (.int .u64 (spT (spM m a) : Nat)) → iV Try.prog I (Instr.loadAt 28 (.pointer (some ⟨w2.heap.size, 1, none⟩))) K := fun K hK => iV.intro _ (fun w' h => by
      obtain ⟨hx, c3, c5⟩ := hu w' h
      simp (disch := first | assumption | omega | (simp only [szR, List.length_append, List.length_cons, List.length_nil, cpC_len, cpC_all, vwC_len, vwC_all, spC_len, spC_all] <;> omega) | rfl | decide) only [gen0, gen1, gen2, rulesC, litR, bolR, Nat.reduceAdd, Nat.reduceLeDiff, numR, memR, valR, heapR, updR, intR, decR, extR, slR, segR, thenR, pnR, Int.reduceToNat, Int.reduceAdd, Int.reduceSub, Int.reduceLT, Int.reduceLE, Nat.reduceSub, Nat.reduceMul, Nat.reduceEqDiff, c5, sat]
      exact ⟨trivial, h⟩) hK
    have Lp : ∀ K : Value → Prop, K (.int .u64 (m / 4294967296 % 512 : Nat)) → iV Try.prog I (Instr.loadAt 28 (.pointer (some ⟨w1.heap.size, 2, none⟩))) K := fun K hK => iV.intro _ (fun w' h => by
      obtain ⟨hx, c3, c5⟩ := hu w' h
      simp (disch := first | assumption | omega | (simp only [szR, List.length_append, List.length_cons, List.length_nil, cpC_len, cpC_all, vwC_len, vwC_all, spC_len, spC_all] <;> omega) | rfl | decide) only [gen0, gen1, gen2, rulesC, litR, bolR, Nat.reduceAdd, Nat.reduceLeDiff, numR, memR, valR, heapR, updR, intR, decR, extR, slR, segR, thenR, pnR, Int.reduceToNat, Int.reduceAdd, Int.reduceSub, Int.reduceLT, Int.reduceLE, Nat.reduceSub, Nat.reduceMul, Nat.reduceEqDiff, c3, vat]
      exact ⟨trivial, h⟩) hK
    have Lt : ∀ K : Value → Prop, K (.int .u64 (m / 281474976710656 % 4096 : Nat)) → iV Try.prog I (Instr.loadAt 28 (.pointer (some ⟨w1.heap.size, 3, none⟩))) K := fun K hK => iV.intro _ (fun w' h => by
      obtain ⟨hx, c3, c5⟩ := hu w' h
      simp (disch := first | assumption | omega | (simp only [szR, List.length_append, List.length_cons, List.length_nil, cpC_len, cpC_all, vwC_len, vwC_all, spC_len, spC_all] <;> omega) | rfl | decide) only [gen0, gen1, gen2, rulesC, litR, bolR, Nat.reduceAdd, Nat.reduceLeDiff, numR, memR, valR, heapR, updR, intR, decR, extR, slR, segR, thenR, pnR, Int.reduceToNat, Int.reduceAdd, Int.reduceSub, Int.reduceLT, Int.reduceLE, Nat.reduceSub, Nat.reduceMul, Nat.reduceEqDiff, c3, vat]
      exact ⟨trivial, h⟩) hK
    refine parR.intro I ?_ ?_
    · subst hI
      refine ⟨by (repeat first | assumption | exact Ext.refl | apply Ext.alloc | apply Ext.drew | (refine Ext.updN ?_ ?_; (focus first | omega | (simp only [szR] <;> omega))) | (refine Ext.updI ?_ ?_; (focus (simp; done)))), ?_, alloc_at rfl⟩
      exact (by first | with_reducible rfl | assumption | (simp (disch := first | assumption | omega | (simp only [szR, List.length_append, List.length_cons, List.length_nil, cpC_len, cpC_all, vwC_len, vwC_all, spC_len, spC_all] <;> omega) | rfl | decide) only [gen0, gen1, gen2, rulesC, litR, bolR, Nat.reduceAdd, Nat.reduceLeDiff, numR, memR, valR, heapR, updR, intR, decR, extR, slR, segR, thenR, pnR, Int.reduceToNat, Int.reduceAdd, Int.reduceSub, Int.reduceLT, Int.reduceLE, Nat.reduceSub, Nat.reduceMul, Nat.reduceEqDiff, d3] <;> rfl))
    simp (disch := first | assumption | omega | (simp only [szR, List.length_append, List.length_cons, List.length_nil, cpC_len, cpC_all, vwC_len, vwC_all, spC_len, spC_all] <;> omega) | rfl | decide) only [gen0, gen1, gen2, rulesC, litR, bolR, Nat.reduceAdd, Nat.reduceLeDiff, numR, memR, valR, heapR, updR, intR, decR, extR, slR, segR, thenR, pnR, Int.reduceToNat, Int.reduceAdd, Int.reduceSub, Int.reduceLT, Int.reduceLE, Nat.reduceSub, Nat.reduceMul, Nat.reduceEqDiff]
    refine Lb _ ?_
    refine iN.intro (.string (strOfNums (digs 16 (spB (spM m a))))) (fun w' h => ?_) ?_
    · simp (disch := first | assumption | omega | (simp only [szR, List.length_append, List.length_cons, List.length_nil, cpC_len, cpC_all, vwC_len, vwC_all, spC_len, spC_all] <;> omega) | rfl | decide) only [gen0, gen1, gen2, rulesC, litR, bolR, Nat.reduceAdd, Nat.reduceLeDiff, numR, memR, valR, heapR, updR, intR, decR, extR, slR, segR, thenR, pnR, Int.reduceToNat, Int.reduceAdd, Int.reduceSub, Int.reduceLT, Int.reduceLE, Nat.reduceSub, Nat.reduceMul, Nat.reduceEqDiff]
      exact rdigs_spec (b := 16) (.inr rfl) _ h0.1 _ _ fun w2 hx2 => ⟨rfl, keep _ _ h hx2⟩
    simp (disch := first | assumption | omega | (simp only [szR, List.length_append, List.length_cons, List.length_nil, cpC_len, cpC_all, vwC_len, vwC_all, spC_len, spC_all] <;> omega) | rfl | decide) only [gen0, gen1, gen2, rulesC, litR, bolR, Nat.reduceAdd, Nat.reduceLeDiff, numR, memR, valR, heapR, updR, intR, decR, extR, slR, segR, thenR, pnR, Int.reduceToNat, Int.reduceAdd, Int.reduceSub, Int.reduceLT, Int.reduceLE, Nat.reduceSub, Nat.reduceMul, Nat.reduceEqDiff, b91, b45, addN]
    refine Le _ ?_
    refine iN.intro (.string (strOfNums (digs 16 (spT (spM m a))))) (fun w' h => ?_) ?_
    · simp (disch := first | assumption | omega | (simp only [szR, List.length_append, List.length_cons, List.length_nil, cpC_len, cpC_all, vwC_len, vwC_all, spC_len, spC_all] <;> omega) | rfl | decide) only [gen0, gen1, gen2, rulesC, litR, bolR, Nat.reduceAdd, Nat.reduceLeDiff, numR, memR, valR, heapR, updR, intR, decR, extR, slR, segR, thenR, pnR, Int.reduceToNat, Int.reduceAdd, Int.reduceSub, Int.reduceLT, Int.reduceLE, Nat.reduceSub, Nat.reduceMul, Nat.reduceEqDiff]
      exact rdigs_spec (b := 16) (.inr rfl) _ h0.2 _ _ fun w2 hx2 => ⟨rfl, keep _ _ h hx2⟩
    simp (disch := first | assumption | omega | (simp only [szR, List.length_append, List.length_cons, List.length_nil, cpC_len, cpC_all, vwC_len, vwC_all, spC_len, spC_all] <;> omega) | rfl | decide) only [gen0, gen1, gen2, rulesC, litR, bolR, Nat.reduceAdd, Nat.reduceLeDiff, numR, memR, valR, heapR, updR, intR, decR, extR, slR, segR, thenR, pnR, Int.reduceToNat, Int.reduceAdd, Int.reduceSub, Int.reduceLT, Int.reduceLE, Nat.reduceSub, Nat.reduceMul, Nat.reduceEqDiff, b32, addN]
    refine Lp _ ?_
    refine iN.intro (.string (strOfNums (ptK (m / 4294967296 % 512) 9))) (fun w' h => ?_) ?_
    · simp (disch := first | assumption | omega | (simp only [szR, List.length_append, List.length_cons, List.length_nil, cpC_len, cpC_all, vwC_len, vwC_all, spC_len, spC_all] <;> omega) | rfl | decide) only [gen0, gen1, gen2, rulesC, litR, bolR, Nat.reduceAdd, Nat.reduceLeDiff, numR, memR, valR, heapR, updR, intR, decR, extR, slR, segR, thenR, pnR, Int.reduceToNat, Int.reduceAdd, Int.reduceSub, Int.reduceLT, Int.reduceLE, Nat.reduceSub, Nat.reduceMul, Nat.reduceEqDiff]
      exact RPerm_spec (by omega) fun w2 hx2 => ⟨rfl, keep _ _ h hx2⟩
    simp (disch := first | assumption | omega | (simp only [szR, List.length_append, List.length_cons, List.length_nil, cpC_len, cpC_all, vwC_len, vwC_all, spC_len, spC_all] <;> omega) | rfl | decide) only [gen0, gen1, gen2, rulesC, litR, bolR, Nat.reduceAdd, Nat.reduceLeDiff, numR, memR, valR, heapR, updR, intR, decR, extR, slR, segR, thenR, pnR, Int.reduceToNat, Int.reduceAdd, Int.reduceSub, Int.reduceLT, Int.reduceLE, Nat.reduceSub, Nat.reduceMul, Nat.reduceEqDiff, b32, addN]
    refine Lt _ ?_
    refine iN.intro (.string (strOfNums (digs 10 (m / 281474976710656 % 4096)))) (fun w' h => ?_) ?_
    · simp (disch := first | assumption | omega | (simp only [szR, List.length_append, List.length_cons, List.length_nil, cpC_len, cpC_all, vwC_len, vwC_all, spC_len, spC_all] <;> omega) | rfl | decide) only [gen0, gen1, gen2, rulesC, litR, bolR, Nat.reduceAdd, Nat.reduceLeDiff, numR, memR, valR, heapR, updR, intR, decR, extR, slR, segR, thenR, pnR, Int.reduceToNat, Int.reduceAdd, Int.reduceSub, Int.reduceLT, Int.reduceLE, Nat.reduceSub, Nat.reduceMul, Nat.reduceEqDiff]
      exact rdigs_spec (b := 10) (.inl rfl) _ (by omega) _ _ fun w2 hx2 => ⟨rfl, keep _ _ h hx2⟩
    simp (disch := first | assumption | omega | (simp only [szR, List.length_append, List.length_cons, List.length_nil, cpC_len, cpC_all, vwC_len, vwC_all, spC_len, spC_all] <;> omega) | rfl | decide) only [gen0, gen1, gen2, rulesC, litR, bolR, Nat.reduceAdd, Nat.reduceLeDiff, numR, memR, valR, heapR, updR, intR, decR, extR, slR, segR, thenR, pnR, Int.reduceToNat, Int.reduceAdd, Int.reduceSub, Int.reduceLT, Int.reduceLE, Nat.reduceSub, Nat.reduceMul, Nat.reduceEqDiff, b93, addN]
    exact allI_intro fun w' h => hK _ (hu _ h).1
end Go.Proofs.Ytgnibcaflidjmaa
