/- An event as a text, the program's: the walk; conditions: those of each theorem. -/
import Derived.Test.YtgnibcaflidjmaaScript
namespace Go.Proofs.Ytgnibcaflidjmaa
open Go.Fx
set_option maxRecDepth 100000
set_option linter.unusedSimpArgs false
set_option linter.unusedVariables false
theorem tail_eq {e : Ev} {ys : List (List Int)} (h : txL e = headL e ++ joinN [32] ys ++ [10]) (hy : ys ≠ []) : txL e = joinN [32] ([[112] ++ whoL e.p, digs 16 e.pc] ++ ys) ++ [10] := by
  rw [h]
  cases ys with
  | nil => exact absurd rfl hy
  | cons a r => simp [joinN, headL]
theorem stext_spec {w : World} {e : Ev} (he : EvOk e) {K : Value → World → Prop} (hK : ∀ w', Ext [] w w' → K (.string (strOfNums (txL e))) w') : callsK Try.prog 15 #[.agg (evC e).toArray] w K := by
  apply F15_ok
  unfold F15
  have hh := headL_len he
  have l1 := whoL_len he.p
  have l2 := digs_le (b := 16) (n := e.pc) (.inr rfl) he.pc
  have l3 := whoL_len he.op
  have l4 := whoL_len he.code
  have l5 := tellL_len (t := e.t) (m := e.m) he.a
  have l6 := instL_len e.op
  have hat := evC_at e
  have hx0 : Ext [] w (w.alloc (.cells (evC e).toArray 35)) := by (repeat first | assumption | exact Ext.refl | apply Ext.alloc | apply Ext.drew | (refine Ext.updN ?_ ?_; (focus first | omega | (simp only [szR] <;> omega))) | (refine Ext.updI ?_ ?_; (focus (simp; done))))
  have hc0 : (w.alloc (.cells (evC e).toArray 35)).heap[w.heap.size]? = some (.cells (evC e).toArray 35 (0, 0)) := alloc_at rfl
  simp (disch := first | assumption | omega | (simp only [szR, List.length_append, List.length_cons, List.length_nil, evC_len, evC_all] <;> omega) | rfl | decide) only [gen0, gen1, gen2, rulesC, litR, bolR, Nat.reduceAdd, Nat.reduceLeDiff, numR, memR, valR, heapR, updR, intR, decR, extR, slR, segR, thenR, pnR, Int.reduceToNat, Int.reduceAdd, Int.reduceSub, Int.reduceLT, Int.reduceLE, Nat.reduceSub, Nat.reduceMul, Nat.reduceEqDiff]
  refine joinL.intro fun J0 hJ0 => ?_
  have hJ : ∀ w', Ext [] w w' → w'.heap[w.heap.size]? = some (.cells (evC e).toArray 35 (0, 0)) → J0 [.slice (some ⟨w'.heap.size, 0, none⟩) 2 2] (w'.alloc (.cells [.string (strOfNums ([112] ++ whoL e.p)), .string (strOfNums (digs 16 e.pc))].toArray 9)) := by
    intro w' hx hc
    refine hJ0 _ _ ?_
    clear hJ0
    have hl := lt_of_at hc
    have hsl := SL.lit (w := w') (base := w.heap.size) [[112] ++ whoL e.p, digs 16 e.pc] (by omega) (by simp)
    have hx1 : Ext [] w (w'.alloc (.cells [.string (strOfNums ([112] ++ whoL e.p)), .string (strOfNums (digs 16 e.pc))].toArray 9)) := by (repeat first | assumption | exact Ext.refl | apply Ext.alloc | apply Ext.drew | (refine Ext.updN ?_ ?_; (focus first | omega | (simp only [szR] <;> omega))) | (refine Ext.updI ?_ ?_; (focus (simp; done))))
    have hc1 : (w'.alloc (.cells [.string (strOfNums ([112] ++ whoL e.p)), .string (strOfNums (digs 16 e.pc))].toArray 9)).heap[w.heap.size]? = some (.cells (evC e).toArray 35 (0, 0)) := (by first | with_reducible rfl | assumption | (simp (disch := first | assumption | omega | (simp only [szR, List.length_append, List.length_cons, List.length_nil, evC_len, evC_all] <;> omega) | rfl | decide) only [gen0, gen1, gen2, rulesC, litR, bolR, Nat.reduceAdd, Nat.reduceLeDiff, numR, memR, valR, heapR, updR, intR, decR, extR, slR, segR, thenR, pnR, Int.reduceToNat, Int.reduceAdd, Int.reduceSub, Int.reduceLT, Int.reduceLE, Nat.reduceSub, Nat.reduceMul, Nat.reduceEqDiff, hc] <;> rfl))
    change SL (w'.alloc (.cells [.string (strOfNums ([112] ++ whoL e.p)), .string (strOfNums (digs 16 e.pc))].toArray 9)) _ (.slice (some ⟨w'.heap.size, 0, none⟩) 2 2) _ at hsl
    generalize (w'.alloc (.cells [.string (strOfNums ([112] ++ whoL e.p)), .string (strOfNums (digs 16 e.pc))].toArray 9)) = W0 at *
    generalize (Value.slice (some ⟨w'.heap.size, 0, none⟩) 2 2) = s0 at *
    clear hc hx hl
    intro _
    refine joinL.intro fun J2 hJ2 => ?_
    have fin : ∀ (ys : List (List Int)) (W : World) (v : Value), SL W w.heap.size v ([[112] ++ whoL e.p, digs 16 e.pc] ++ ys) → Ext [] w W → txL e = headL e ++ joinN [32] ys ++ [10] → ys ≠ [] → ys.length ≤ 4 → J2 [v] W := by
      intro ys W v h hx ht hy hy4
      refine hJ2 _ _ ?_
      have ht2 := tail_eq ht hy
      have hlen := txL_len he
      rw [ht2, List.length_append] at hlen
      rw [ht2] at hK
      intro _
      simp (disch := first | assumption | omega | (simp only [szR, List.length_append, List.length_cons, List.length_nil, evC_len, evC_all] <;> omega) | rfl | decide) only [gen0, gen1, gen2, rulesC, litR, bolR, Nat.reduceAdd, Nat.reduceLeDiff, numR, memR, valR, heapR, updR, intR, decR, extR, slR, segR, thenR, pnR, Int.reduceToNat, Int.reduceAdd, Int.reduceSub, Int.reduceLT, Int.reduceLE, Nat.reduceSub, Nat.reduceMul, Nat.reduceEqDiff, b32]
      refine Join2_spec h (by simp) (by simp; omega) (by omega) fun w2 hx2 => ?_
      simp (disch := first | assumption | omega | (simp only [szR, List.length_append, List.length_cons, List.length_nil, evC_len, evC_all] <;> omega) | rfl | decide) only [gen0, gen1, gen2, rulesC, litR, bolR, Nat.reduceAdd, Nat.reduceLeDiff, numR, memR, valR, heapR, updR, intR, decR, extR, slR, segR, thenR, pnR, Int.reduceToNat, Int.reduceAdd, Int.reduceSub, Int.reduceLT, Int.reduceLE, Nat.reduceSub, Nat.reduceMul, Nat.reduceEqDiff, b10, addN]
      exact hK _ (hx.trans hx2 (by simp))
    have fin2 : ∀ (w2 : World) (ys : List (List Int)), (Ext [] w w2 ∧ SL w2 w.heap.size s0 [[112] ++ whoL e.p, digs 16 e.pc]) → txL e = headL e ++ joinN [32] ys ++ [10] → ys ≠ [] → ys.length ≤ 4 →
        resV (fun v w => J2 [v] w) ((Builtin.append_ #[69, 69] 69 #[s0, .slice (some ⟨w2.heap.size, 0, none⟩) ys.length ys.length]).run Try.prog (w2.alloc (.cells (ys.map fun x => Value.string (strOfNums x)).toArray 9))) := by
      intro w2 ys h ht hy hy4
      have hw := h.1.size
      have hxa : Ext [] w2 (w2.alloc (.cells (ys.map fun x => Value.string (strOfNums x)).toArray 9)) := by (repeat first | assumption | exact Ext.refl | apply Ext.alloc | apply Ext.drew | (refine Ext.updN ?_ ?_; (focus first | omega | (simp only [szR] <;> omega))) | (refine Ext.updI ?_ ?_; (focus (simp; done))))
      refine app_spec (h.2.ext hxa) (SL.lit ys (by omega) (by omega)) (by simp; omega) (by have := hxa.size; omega) fun v' W hs happ => ?_
      exact fin ys W v' hs (happ.ext w [] (Nat.le_refl _) (h.1.trans hxa (by simp))) ht hy hy4
    clear hJ2 fin
    have Cw : ∀ (w' : World) (k : Int) (K : Value → World → Prop), (Ext [] w w' ∧ SL w' w.heap.size s0 [[112] ++ whoL e.p, digs 16 e.pc]) → w'.heap[w.heap.size]? = some (.cells (evC e).toArray 35 (0, 0)) → I64 k → (∀ w2, (Ext [] w w2 ∧ SL w2 w.heap.size s0 [[112] ++ whoL e.p, digs 16 e.pc]) → w2.heap[w.heap.size]? = some (.cells (evC e).toArray 35 (0, 0)) → K (.string (strOfNums (whoL k))) w2) → callsK Try.prog 35 #[.int .i64 k] w' K := fun w' k K h c hk hK =>
      whole2_spec hk fun w2 hx2 => hK w2 ⟨h.1.trans hx2 (by simp), h.2.ext hx2⟩ (hx2.at c (by simp))
    have Cn : ∀ (w' : World) (k : Int) (K : Value → World → Prop), (Ext [] w w' ∧ SL w' w.heap.size s0 [[112] ++ whoL e.p, digs 16 e.pc]) → w'.heap[w.heap.size]? = some (.cells (evC e).toArray 35 (0, 0)) → (∀ w2, (Ext [] w w2 ∧ SL w2 w.heap.size s0 [[112] ++ whoL e.p, digs 16 e.pc]) → w2.heap[w.heap.size]? = some (.cells (evC e).toArray 35 (0, 0)) → K (.string (strOfNums (instL k))) w2) → callsK Try.prog 37 #[.int .i64 k] w' K := fun w' k K h c hK =>
      Name_spec fun w2 hx2 => hK w2 ⟨h.1.trans hx2 (by simp), h.2.ext hx2⟩ (hx2.at c (by simp))
    have Ct : ∀ (w' : World) (K : Value → World → Prop), (Ext [] w w' ∧ SL w' w.heap.size s0 [[112] ++ whoL e.p, digs 16 e.pc]) → w'.heap[w.heap.size]? = some (.cells (evC e).toArray 35 (0, 0)) → (∀ w2, (Ext [] w w2 ∧ SL w2 w.heap.size s0 [[112] ++ whoL e.p, digs 16 e.pc]) → w2.heap[w.heap.size]? = some (.cells (evC e).toArray 35 (0, 0)) → K (.string (strOfNums (tellL e.t e.m e.a))) w2) → callsK Try.prog 38 #[.agg (cpC e.t e.m e.a).toArray] w' K := fun w' K h c hK =>
      Tell_spec he.m he.a fun w2 hx2 => hK w2 ⟨h.1.trans hx2 (by simp), h.2.ext hx2⟩ (hx2.at c (by simp))
    have hI : Ext [] w W0 ∧ SL W0 w.heap.size s0 [[112] ++ whoL e.p, digs 16 e.pc] := ⟨hx1, hsl⟩
    have hId : Ext [] w W0.drew ∧ SL W0.drew w.heap.size s0 [[112] ++ whoL e.p, digs 16 e.pc] := ⟨by (repeat first | assumption | exact Ext.refl | apply Ext.alloc | apply Ext.drew | (refine Ext.updN ?_ ?_; (focus first | omega | (simp only [szR] <;> omega))) | (refine Ext.updI ?_ ?_; (focus (simp; done)))), hsl.ext (by (repeat first | assumption | exact Ext.refl | apply Ext.alloc | apply Ext.drew | (refine Ext.updN ?_ ?_; (focus first | omega | (simp only [szR] <;> omega))) | (refine Ext.updI ?_ ?_; (focus (simp; done)))))⟩
    have hcd : W0.drew.heap[w.heap.size]? = some (.cells (evC e).toArray 35 (0, 0)) := hc1
    by_cases h0 : e.k = 0
    · have et : txL e = headL e ++ joinN [32] [instL e.op, tellL e.t e.m e.a] ++ [10] := by simp [txL, if_pos h0, joinN]
      have f := fun w2 h => fin2 w2 _ h et (by simp) (by simp)
      simp (disch := first | assumption | omega | (simp only [szR, List.length_append, List.length_cons, List.length_nil, evC_len, evC_all] <;> omega) | rfl | decide) only [gen0, gen1, gen2, rulesC, litR, bolR, Nat.reduceAdd, Nat.reduceLeDiff, numR, memR, valR, heapR, updR, intR, decR, extR, slR, segR, thenR, pnR, Int.reduceToNat, Int.reduceAdd, Int.reduceSub, Int.reduceLT, Int.reduceLE, Nat.reduceSub, Nat.reduceMul, Nat.reduceEqDiff, hc1, hat, evC_cap]
      repeat' (with_reducible apply And.intro)
      all_goals repeat (first
        | (refine Cn _ _ _ (by assumption) (by assumption) fun w2 h2 c2 => ?_; simp (disch := first | assumption | omega | (simp only [szR, List.length_append, List.length_cons, List.length_nil, evC_len, evC_all] <;> omega) | rfl | decide) only [gen0, gen1, gen2, rulesC, litR, bolR, Nat.reduceAdd, Nat.reduceLeDiff, numR, memR, valR, heapR, updR, intR, decR, extR, slR, segR, thenR, pnR, Int.reduceToNat, Int.reduceAdd, Int.reduceSub, Int.reduceLT, Int.reduceLE, Nat.reduceSub, Nat.reduceMul, Nat.reduceEqDiff, c2, hat, evC_cap])
        | (refine Ct _ _ (by assumption) (by assumption) fun w2 h2 c2 => ?_; simp (disch := first | assumption | omega | (simp only [szR, List.length_append, List.length_cons, List.length_nil, evC_len, evC_all] <;> omega) | rfl | decide) only [gen0, gen1, gen2, rulesC, litR, bolR, Nat.reduceAdd, Nat.reduceLeDiff, numR, memR, valR, heapR, updR, intR, decR, extR, slR, segR, thenR, pnR, Int.reduceToNat, Int.reduceAdd, Int.reduceSub, Int.reduceLT, Int.reduceLE, Nat.reduceSub, Nat.reduceMul, Nat.reduceEqDiff, c2, hat, evC_cap]))
      all_goals exact f _ h2
    by_cases h1 : e.k = 1
    · have et : txL e = headL e ++ joinN [32] [[99, 97, 108, 108], whoL e.op, whoL e.code, tellL e.t e.m e.a] ++ [10] := by simp [txL, if_neg h0, if_pos h1, joinN]
      have f := fun w2 h => fin2 w2 _ h et (by simp) (by simp)
      simp (disch := first | assumption | omega | (simp only [szR, List.length_append, List.length_cons, List.length_nil, evC_len, evC_all] <;> omega) | rfl | decide) only [gen0, gen1, gen2, rulesC, litR, bolR, Nat.reduceAdd, Nat.reduceLeDiff, numR, memR, valR, heapR, updR, intR, decR, extR, slR, segR, thenR, pnR, Int.reduceToNat, Int.reduceAdd, Int.reduceSub, Int.reduceLT, Int.reduceLE, Nat.reduceSub, Nat.reduceMul, Nat.reduceEqDiff, hc1, hat, evC_cap]
      repeat' (with_reducible apply And.intro)
      repeat' (first
        | (with_reducible apply And.intro)
        | (refine Cw _ _ _ (by assumption) (by assumption) he.op fun w2 h2 c2 => ?_; simp (disch := first | assumption | omega | (simp only [szR, List.length_append, List.length_cons, List.length_nil, evC_len, evC_all] <;> omega) | rfl | decide) only [gen0, gen1, gen2, rulesC, litR, bolR, Nat.reduceAdd, Nat.reduceLeDiff, numR, memR, valR, heapR, updR, intR, decR, extR, slR, segR, thenR, pnR, Int.reduceToNat, Int.reduceAdd, Int.reduceSub, Int.reduceLT, Int.reduceLE, Nat.reduceSub, Nat.reduceMul, Nat.reduceEqDiff, c2, hat, evC_cap, bCall])
        | (refine Cw _ _ _ (by assumption) (by assumption) he.code fun w2 h2 c2 => ?_; simp (disch := first | assumption | omega | (simp only [szR, List.length_append, List.length_cons, List.length_nil, evC_len, evC_all] <;> omega) | rfl | decide) only [gen0, gen1, gen2, rulesC, litR, bolR, Nat.reduceAdd, Nat.reduceLeDiff, numR, memR, valR, heapR, updR, intR, decR, extR, slR, segR, thenR, pnR, Int.reduceToNat, Int.reduceAdd, Int.reduceSub, Int.reduceLT, Int.reduceLE, Nat.reduceSub, Nat.reduceMul, Nat.reduceEqDiff, c2, hat, evC_cap, bCall])
        | (refine Ct _ _ (by assumption) (by assumption) fun w2 h2 c2 => ?_; simp (disch := first | assumption | omega | (simp only [szR, List.length_append, List.length_cons, List.length_nil, evC_len, evC_all] <;> omega) | rfl | decide) only [gen0, gen1, gen2, rulesC, litR, bolR, Nat.reduceAdd, Nat.reduceLeDiff, numR, memR, valR, heapR, updR, intR, decR, extR, slR, segR, thenR, pnR, Int.reduceToNat, Int.reduceAdd, Int.reduceSub, Int.reduceLT, Int.reduceLE, Nat.reduceSub, Nat.reduceMul, Nat.reduceEqDiff, c2, hat, evC_cap, bCall]))
      all_goals exact f _ h2
    by_cases h2 : e.k = 2
    · have et : txL e = headL e ++ joinN [32] [[101, 110, 100], whoL e.code] ++ [10] := by simp [txL, if_neg h0, if_neg h1, if_pos h2, joinN]
      have f := fun w2 h => fin2 w2 _ h et (by simp) (by simp)
      simp (disch := first | assumption | omega | (simp only [szR, List.length_append, List.length_cons, List.length_nil, evC_len, evC_all] <;> omega) | rfl | decide) only [gen0, gen1, gen2, rulesC, litR, bolR, Nat.reduceAdd, Nat.reduceLeDiff, numR, memR, valR, heapR, updR, intR, decR, extR, slR, segR, thenR, pnR, Int.reduceToNat, Int.reduceAdd, Int.reduceSub, Int.reduceLT, Int.reduceLE, Nat.reduceSub, Nat.reduceMul, Nat.reduceEqDiff, hc1, hat]
      refine Cw _ _ _ hI hc1 he.code fun w2 h2 c2 => ?_
      simp (disch := first | assumption | omega | (simp only [szR, List.length_append, List.length_cons, List.length_nil, evC_len, evC_all] <;> omega) | rfl | decide) only [gen0, gen1, gen2, rulesC, litR, bolR, Nat.reduceAdd, Nat.reduceLeDiff, numR, memR, valR, heapR, updR, intR, decR, extR, slR, segR, thenR, pnR, Int.reduceToNat, Int.reduceAdd, Int.reduceSub, Int.reduceLT, Int.reduceLE, Nat.reduceSub, Nat.reduceMul, Nat.reduceEqDiff, bEnd]
      exact f _ h2
    by_cases h3 : e.k = 3
    · have et : txL e = headL e ++ joinN [32] [[107, 105, 108, 108], whoL e.code] ++ [10] := by simp [txL, if_neg h0, if_neg h1, if_neg h2, if_pos h3, joinN]
      have f := fun w2 h => fin2 w2 _ h et (by simp) (by simp)
      simp (disch := first | assumption | omega | (simp only [szR, List.length_append, List.length_cons, List.length_nil, evC_len, evC_all] <;> omega) | rfl | decide) only [gen0, gen1, gen2, rulesC, litR, bolR, Nat.reduceAdd, Nat.reduceLeDiff, numR, memR, valR, heapR, updR, intR, decR, extR, slR, segR, thenR, pnR, Int.reduceToNat, Int.reduceAdd, Int.reduceSub, Int.reduceLT, Int.reduceLE, Nat.reduceSub, Nat.reduceMul, Nat.reduceEqDiff, hc1, hat]
      refine Cw _ _ _ hI hc1 he.code fun w2 h2 c2 => ?_
      simp (disch := first | assumption | omega | (simp only [szR, List.length_append, List.length_cons, List.length_nil, evC_len, evC_all] <;> omega) | rfl | decide) only [gen0, gen1, gen2, rulesC, litR, bolR, Nat.reduceAdd, Nat.reduceLeDiff, numR, memR, valR, heapR, updR, intR, decR, extR, slR, segR, thenR, pnR, Int.reduceToNat, Int.reduceAdd, Int.reduceSub, Int.reduceLT, Int.reduceLE, Nat.reduceSub, Nat.reduceMul, Nat.reduceEqDiff, bKill]
      exact f _ h2
    have et : txL e = headL e ++ joinN [32] [[63]] ++ [10] := by simp [txL, if_neg h0, if_neg h1, if_neg h2, if_neg h3, joinN]
    have f := fun w2 h => fin2 w2 _ h et (by simp) (by simp)
    simp (disch := first | assumption | omega | (simp only [szR, List.length_append, List.length_cons, List.length_nil, evC_len, evC_all] <;> omega) | rfl | decide) only [gen0, gen1, gen2, rulesC, litR, bolR, Nat.reduceAdd, Nat.reduceLeDiff, numR, memR, valR, heapR, updR, intR, decR, extR, slR, segR, thenR, pnR, Int.reduceToNat, Int.reduceAdd, Int.reduceSub, Int.reduceLT, Int.reduceLE, Nat.reduceSub, Nat.reduceMul, Nat.reduceEqDiff, hc1, hat, bQ]
    exact f _ hI
  clear hJ0
  have Cw : ∀ (w' : World) (k : Int) (K : Value → World → Prop), (Ext [] w w' ∧ w'.heap[w.heap.size]? = some (.cells (evC e).toArray 35 (0, 0))) → I64 k → (∀ w2, (Ext [] w w2 ∧ w2.heap[w.heap.size]? = some (.cells (evC e).toArray 35 (0, 0))) → w2.heap[w.heap.size]? = some (.cells (evC e).toArray 35 (0, 0)) → K (.string (strOfNums (whoL k))) w2) → callsK Try.prog 35 #[.int .i64 k] w' K := fun w' k K h hk hK =>
    whole2_spec hk fun w2 hx2 => hK w2 ⟨h.1.trans hx2 (by simp), hx2.at h.2 (by simp)⟩ (hx2.at h.2 (by simp))
  have Cd : ∀ (w' : World) (K : Value → World → Prop), (Ext [] w w' ∧ w'.heap[w.heap.size]? = some (.cells (evC e).toArray 35 (0, 0))) → (∀ w2, (Ext [] w w2 ∧ w2.heap[w.heap.size]? = some (.cells (evC e).toArray 35 (0, 0))) → w2.heap[w.heap.size]? = some (.cells (evC e).toArray 35 (0, 0)) → K (.string (strOfNums (digs 16 e.pc))) w2) → callsK Try.prog 36 #[.int .u64 e.pc, .int .u64 16] w' K := fun w' K h hK =>
    digs_spec (b := 16) (.inr rfl) he.pc fun w2 hx2 => hK w2 ⟨h.1.trans hx2 (by simp), hx2.at h.2 (by simp)⟩ (hx2.at h.2 (by simp))
  have hI0 : Ext [] w (w.alloc (.cells (evC e).toArray 35)).drew ∧ (w.alloc (.cells (evC e).toArray 35)).drew.heap[w.heap.size]? = some (.cells (evC e).toArray 35 (0, 0)) := ⟨by (repeat first | assumption | exact Ext.refl | apply Ext.alloc | apply Ext.drew | (refine Ext.updN ?_ ?_; (focus first | omega | (simp only [szR] <;> omega))) | (refine Ext.updI ?_ ?_; (focus (simp; done)))), hc0⟩
  simp (disch := first | assumption | omega | (simp only [szR, List.length_append, List.length_cons, List.length_nil, evC_len, evC_all] <;> omega) | rfl | decide) only [gen0, gen1, gen2, rulesC, litR, bolR, Nat.reduceAdd, Nat.reduceLeDiff, numR, memR, valR, heapR, updR, intR, decR, extR, slR, segR, thenR, pnR, Int.reduceToNat, Int.reduceAdd, Int.reduceSub, Int.reduceLT, Int.reduceLE, Nat.reduceSub, Nat.reduceMul, Nat.reduceEqDiff, hc0, hat]
  repeat' (with_reducible apply And.intro)
  all_goals repeat (first
    | (refine Cw _ _ _ (by assumption) he.p fun w2 h2 c2 => ?_; simp (disch := first | assumption | omega | (simp only [szR, List.length_append, List.length_cons, List.length_nil, evC_len, evC_all] <;> omega) | rfl | decide) only [gen0, gen1, gen2, rulesC, litR, bolR, Nat.reduceAdd, Nat.reduceLeDiff, numR, memR, valR, heapR, updR, intR, decR, extR, slR, segR, thenR, pnR, Int.reduceToNat, Int.reduceAdd, Int.reduceSub, Int.reduceLT, Int.reduceLE, Nat.reduceSub, Nat.reduceMul, Nat.reduceEqDiff, c2, hat, b112, b32, addN])
    | (refine Cd _ _ (by assumption) fun w2 h2 c2 => ?_; simp (disch := first | assumption | omega | (simp only [szR, List.length_append, List.length_cons, List.length_nil, evC_len, evC_all] <;> omega) | rfl | decide) only [gen0, gen1, gen2, rulesC, litR, bolR, Nat.reduceAdd, Nat.reduceLeDiff, numR, memR, valR, heapR, updR, intR, decR, extR, slR, segR, thenR, pnR, Int.reduceToNat, Int.reduceAdd, Int.reduceSub, Int.reduceLT, Int.reduceLE, Nat.reduceSub, Nat.reduceMul, Nat.reduceEqDiff, c2, hat, b112, b32, addN]))
  all_goals exact hJ _ h2.1 h2.2
end Go.Proofs.Ytgnibcaflidjmaa
