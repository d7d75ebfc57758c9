/- An entry lets any access be, or not, as the document says; conditions: those of each theorem. -/
import Derived.Test.YtbigiabcgplkgaaMarks2
namespace Go.Proofs.Ytbigiabcgplkgaa
open Go.Fx
set_option maxRecDepth 100000
set_option linter.unusedSimpArgs false
set_option linter.unusedVariables false
theorem pN_pickE {P : Program} {c : Bool} {a b : Value} {K : Value → Prop} : pN P (pickN (.bool c) a b) K = K (if c then a else b) := by
  apply propext
  constructor
  · rintro ⟨v, h, hk⟩
    have h1 := h default
    have h2 : (pickN (.bool c) a b).run P default = .ok (.value (if c then a else b)) default := by cases c <;> rfl
    have h3 := h1.symm.trans h2
    have h4 : v = if c then a else b := by
      injection h3 with h4
      injection h4
    exact h4 ▸ hk
  · exact pN_pick
theorem gdPR : (∀ (A : (Value → Prop) → Prop) (K : Value → Prop), gdP (yb (.bool true)) true A K = A K) ∧ (∀ (A : (Value → Prop) → Prop) (K : Value → Prop), gdP (yb (.bool false)) false A K = A K) ∧ (∀ (A : (Value → Prop) → Prop) (K : Value → Prop), gdP (yb (.bool false)) true A K = K undef) ∧
    (∀ (A : (Value → Prop) → Prop) (K : Value → Prop), gdP (yb (.bool true)) false A K = K undef) ∧ (∀ (want : Bool) (A : (Value → Prop) → Prop) (K : Value → Prop), gdP (yb undef) want A K = K undef) :=
  ⟨fun _ _ => gdP_yes, fun _ _ => gdP_yes, fun _ _ => gdP_no1, fun _ _ => gdP_no2, fun _ _ _ => by simp [gdP, yb, undef]⟩
theorem allI_intro {I : World → Prop} {G : World → Prop} (h : ∀ w, I w → G w) : allI I G := h
set_option maxHeartbeats 4000000 in
theorem checks_spec {w : World} {e : EntE} {k : Int} {how : Bool × Bool} (hn : e.n < 18446744073709551616) {K : Value → World → Prop} (hK : ∀ w', Ext [] w w' → K (.bool true) w') : callsK Try.prog 6 #[.agg (entE e).toArray, .int .i64 k, .agg (b2C how).toArray] w K := by
  obtain ⟨f, n⟩ := e
  obtain ⟨t, g⟩ := how
  have e1 : entE ⟨f, n⟩ = entC f n := rfl
  have e2 : b2C (t, g) = [.bool t, .bool g] := rfl
  rw [e1, e2]
  apply F6_ok
  unfold F6
  have hz : splice [Value.bool false, .bool false, .bool false, .bool false, .bool false, .bool false, .bool false, .bool false, .bool false, .bool false, .bool false, .bool false, .int .u64 0] 0 (entC f n) = entC f n := splice_over (by rw [entC_len]; rfl)
  simp (disch := first | assumption | omega | (simp only [szR, entC_len, entC_all, fdC_len, fdC_all] <;> omega) | rfl | decide) only [gen0, gen1, gen2, rulesM, litR, bolR, Nat.reduceAdd, Nat.reduceLeDiff, numR, memR, valR, heapR, updR, intR, decR, extR, slR, segR, thenR, pnR, Int.reduceToNat, Int.reduceAdd, Int.reduceSub, Int.reduceLT, Int.reduceLE, Nat.reduceSub, Nat.reduceMul, Nat.reduceEqDiff, entC_sub, hz]
  obtain ⟨I, hI⟩ : ∃ I : World → Prop, I = fun w' => Ext [] w w' ∧ w'.heap[w.heap.size]? = some (.cells (entC f n).toArray 32 (0, 0)) ∧ w'.heap[w.heap.size + 1]? = some (.cells [.bool t, .bool g].toArray 55 (0, 0)) ∧ w'.heap[w.heap.size + 1 + 1]? = some (.cells (entC f n).toArray 37 (0, 0)) := ⟨_, rfl⟩
  have keep : ∀ w' w2, I w' → Ext [] w' w2 → I w2 := by
    subst hI
    rintro w' w2 ⟨hx, c3, c5, c7⟩ h
    exact ⟨hx.trans h (by simp), h.at c3 (by simp), h.at c5 (by simp), h.at c7 (by simp)⟩
  have hu : ∀ w', I w' → Ext [] w w' ∧ w'.heap[w.heap.size]? = some (.cells (entC f n).toArray 32 (0, 0)) ∧ w'.heap[w.heap.size + 1]? = some (.cells [.bool t, .bool g].toArray 55 (0, 0)) ∧ w'.heap[w.heap.size + 1 + 1]? = some (.cells (entC f n).toArray 37 (0, 0)) := by
    subst hI
    exact fun _ h => h
  have L3 : ∀ K : Value → Prop, K (.agg (entC f n).toArray) → iV Try.prog I (Instr.loadAt 32 (.pointer (some ⟨w.heap.size, 0, none⟩))) K := fun K hK => iV.intro _ (fun w' h => by
    obtain ⟨hx, c3, c5, c7⟩ := hu w' h
    have hl : ∀ K' : Value → World → Prop, K' (.agg (entC f n).toArray) w' → kV Try.prog (Instr.loadAt 32 (.pointer (some ⟨w.heap.size, 0, none⟩))) w' K' := fun K' hk => by
      simp (disch := first | assumption | omega | (simp only [szR, entC_len, entC_all, fdC_len, fdC_all] <;> omega) | rfl | decide) only [gen0, gen1, gen2, rulesM, litR, bolR, Nat.reduceAdd, Nat.reduceLeDiff, numR, memR, valR, heapR, updR, intR, decR, extR, slR, segR, thenR, pnR, Int.reduceToNat, Int.reduceAdd, Int.reduceSub, Int.reduceLT, Int.reduceLE, Nat.reduceSub, Nat.reduceMul, Nat.reduceEqDiff, c3, entC_sub]
      exact hk
    exact hl _ ⟨rfl, h⟩) hK
  have L7 : ∀ K : Value → Prop, K (.agg (entC f n).toArray) → iV Try.prog I (Instr.loadAt 37 (.pointer (some ⟨w.heap.size + 1 + 1, 0, none⟩))) K := fun K hK => iV.intro _ (fun w' h => by
    obtain ⟨hx, c3, c5, c7⟩ := hu w' h
    have hl : ∀ K' : Value → World → Prop, K' (.agg (entC f n).toArray) w' → kV Try.prog (Instr.loadAt 37 (.pointer (some ⟨w.heap.size + 1 + 1, 0, none⟩))) w' K' := fun K' hk => by
      simp (disch := first | assumption | omega | (simp only [szR, entC_len, entC_all, fdC_len, fdC_all] <;> omega) | rfl | decide) only [gen0, gen1, gen2, rulesM, litR, bolR, Nat.reduceAdd, Nat.reduceLeDiff, numR, memR, valR, heapR, updR, intR, decR, extR, slR, segR, thenR, pnR, Int.reduceToNat, Int.reduceAdd, Int.reduceSub, Int.reduceLT, Int.reduceLE, Nat.reduceSub, Nat.reduceMul, Nat.reduceEqDiff, c7, entC_sub]
      exact hk
    exact hl _ ⟨rfl, h⟩) hK
  have L50 : ∀ K : Value → Prop, K (.bool t) → iV Try.prog I (Instr.loadAt 4 (.pointer (some ⟨w.heap.size + 1, 0, none⟩))) K := fun K hK => iV.intro _ (fun w' h => by
    obtain ⟨hx, c3, c5, c7⟩ := hu w' h
    have hl : ∀ K' : Value → World → Prop, K' (.bool t) w' → kV Try.prog (Instr.loadAt 4 (.pointer (some ⟨w.heap.size + 1, 0, none⟩))) w' K' := fun K' hk => by
      simp (disch := first | assumption | omega | (simp only [szR, entC_len, entC_all, fdC_len, fdC_all] <;> omega) | rfl | decide) only [gen0, gen1, gen2, rulesM, litR, bolR, Nat.reduceAdd, Nat.reduceLeDiff, numR, memR, valR, heapR, updR, intR, decR, extR, slR, segR, thenR, pnR, Int.reduceToNat, Int.reduceAdd, Int.reduceSub, Int.reduceLT, Int.reduceLE, Nat.reduceSub, Nat.reduceMul, Nat.reduceEqDiff, c5]
      exact hk
    exact hl _ ⟨rfl, h⟩) hK
  have L51 : ∀ K : Value → Prop, K (.bool g) → iV Try.prog I (Instr.loadAt 4 (.pointer (some ⟨w.heap.size + 1, 1, none⟩))) K := fun K hK => iV.intro _ (fun w' h => by
    obtain ⟨hx, c3, c5, c7⟩ := hu w' h
    have hl : ∀ K' : Value → World → Prop, K' (.bool g) w' → kV Try.prog (Instr.loadAt 4 (.pointer (some ⟨w.heap.size + 1, 1, none⟩))) w' K' := fun K' hk => by
      simp (disch := first | assumption | omega | (simp only [szR, entC_len, entC_all, fdC_len, fdC_all] <;> omega) | rfl | decide) only [gen0, gen1, gen2, rulesM, litR, bolR, Nat.reduceAdd, Nat.reduceLeDiff, numR, memR, valR, heapR, updR, intR, decR, extR, slR, segR, thenR, pnR, Int.reduceToNat, Int.reduceAdd, Int.reduceSub, Int.reduceLT, Int.reduceLE, Nat.reduceSub, Nat.reduceMul, Nat.reduceEqDiff, c5]
      exact hk
    exact hl _ ⟨rfl, h⟩) hK
  have L39 : ∀ K : Value → Prop, K (.bool (f 9)) → iV Try.prog I (Instr.loadAt 4 (.pointer (some ⟨w.heap.size, 9, none⟩))) K := fun K hK => iV.intro _ (fun w' h => by
    obtain ⟨hx, c3, c5, c7⟩ := hu w' h
    have hl : ∀ K' : Value → World → Prop, K' (.bool (f 9)) w' → kV Try.prog (Instr.loadAt 4 (.pointer (some ⟨w.heap.size, 9, none⟩))) w' K' := fun K' hk => by
      simp (disch := first | assumption | omega | (simp only [szR, entC_len, entC_all, fdC_len, fdC_all] <;> omega) | rfl | decide) only [gen0, gen1, gen2, rulesM, litR, bolR, Nat.reduceAdd, Nat.reduceLeDiff, numR, memR, valR, heapR, updR, intR, decR, extR, slR, segR, thenR, pnR, Int.reduceToNat, Int.reduceAdd, Int.reduceSub, Int.reduceLT, Int.reduceLE, Nat.reduceSub, Nat.reduceMul, Nat.reduceEqDiff, c3, entC_at]
      exact hk
    exact hl _ ⟨rfl, h⟩) hK
  refine parR.intro I ?_ ?_
  · subst hI
    exact ⟨by (repeat first | assumption | exact Ext.refl | apply Ext.alloc | apply Ext.drew | (refine Ext.updN ?_ ?_; (focus first | omega | (simp only [szR] <;> omega))) | (refine Ext.updI ?_ ?_; (focus (simp; done)))), (by first | with_reducible rfl | assumption | (simp (disch := first | assumption | omega | (simp only [szR, entC_len, entC_all, fdC_len, fdC_all] <;> omega) | rfl | decide) only [gen0, gen1, gen2, rulesM, litR, bolR, Nat.reduceAdd, Nat.reduceLeDiff, numR, memR, valR, heapR, updR, intR, decR, extR, slR, segR, thenR, pnR, Int.reduceToNat, Int.reduceAdd, Int.reduceSub, Int.reduceLT, Int.reduceLE, Nat.reduceSub, Nat.reduceMul, Nat.reduceEqDiff, hz] <;> rfl) | simp (disch := first | assumption | omega | (simp only [szR, entC_len, entC_all, fdC_len, fdC_all] <;> omega) | rfl | decide) only [gen0, gen1, gen2, rulesM, litR, bolR, Nat.reduceAdd, Nat.reduceLeDiff, numR, memR, valR, heapR, updR, intR, decR, extR, slR, segR, thenR, pnR, Int.reduceToNat, Int.reduceAdd, Int.reduceSub, Int.reduceLT, Int.reduceLE, Nat.reduceSub, Nat.reduceMul, Nat.reduceEqDiff, hz]), (by first | with_reducible rfl | assumption | (simp (disch := first | assumption | omega | (simp only [szR, entC_len, entC_all, fdC_len, fdC_all] <;> omega) | rfl | decide) only [gen0, gen1, gen2, rulesM, litR, bolR, Nat.reduceAdd, Nat.reduceLeDiff, numR, memR, valR, heapR, updR, intR, decR, extR, slR, segR, thenR, pnR, Int.reduceToNat, Int.reduceAdd, Int.reduceSub, Int.reduceLT, Int.reduceLE, Nat.reduceSub, Nat.reduceMul, Nat.reduceEqDiff] <;> rfl) | simp (disch := first | assumption | omega | (simp only [szR, entC_len, entC_all, fdC_len, fdC_all] <;> omega) | rfl | decide) only [gen0, gen1, gen2, rulesM, litR, bolR, Nat.reduceAdd, Nat.reduceLeDiff, numR, memR, valR, heapR, updR, intR, decR, extR, slR, segR, thenR, pnR, Int.reduceToNat, Int.reduceAdd, Int.reduceSub, Int.reduceLT, Int.reduceLE, Nat.reduceSub, Nat.reduceMul, Nat.reduceEqDiff]), (by first | with_reducible rfl | assumption | (simp (disch := first | assumption | omega | (simp only [szR, entC_len, entC_all, fdC_len, fdC_all] <;> omega) | rfl | decide) only [gen0, gen1, gen2, rulesM, litR, bolR, Nat.reduceAdd, Nat.reduceLeDiff, numR, memR, valR, heapR, updR, intR, decR, extR, slR, segR, thenR, pnR, Int.reduceToNat, Int.reduceAdd, Int.reduceSub, Int.reduceLT, Int.reduceLE, Nat.reduceSub, Nat.reduceMul, Nat.reduceEqDiff, hz] <;> rfl) | simp (disch := first | assumption | omega | (simp only [szR, entC_len, entC_all, fdC_len, fdC_all] <;> omega) | rfl | decide) only [gen0, gen1, gen2, rulesM, litR, bolR, Nat.reduceAdd, Nat.reduceLeDiff, numR, memR, valR, heapR, updR, intR, decR, extR, slR, segR, thenR, pnR, Int.reduceToNat, Int.reduceAdd, Int.reduceSub, Int.reduceLT, Int.reduceLE, Nat.reduceSub, Nat.reduceMul, Nat.reduceEqDiff, hz])⟩
  refine L3 _ ?_
  simp (disch := first | assumption | omega | (simp only [szR, entC_len, entC_all, fdC_len, fdC_all] <;> omega) | rfl | decide) only [gen0, gen1, gen2, rulesM, litR, bolR, Nat.reduceAdd, Nat.reduceLeDiff, numR, memR, valR, heapR, updR, intR, decR, extR, slR, segR, thenR, pnR, Int.reduceToNat, Int.reduceAdd, Int.reduceSub, Int.reduceLT, Int.reduceLE, Nat.reduceSub, Nat.reduceMul, Nat.reduceEqDiff, gdPR, pN_pickE]
  refine L50 _ ?_
  simp (disch := first | assumption | omega | (simp only [szR, entC_len, entC_all, fdC_len, fdC_all] <;> omega) | rfl | decide) only [gen0, gen1, gen2, rulesM, litR, bolR, Nat.reduceAdd, Nat.reduceLeDiff, numR, memR, valR, heapR, updR, intR, decR, extR, slR, segR, thenR, pnR, Int.reduceToNat, Int.reduceAdd, Int.reduceSub, Int.reduceLT, Int.reduceLE, Nat.reduceSub, Nat.reduceMul, Nat.reduceEqDiff, gdPR, pN_pickE]
  refine L51 _ ?_
  refine iN.intro (.int .i64 (checkA f k t g)) (fun w' h => ?_) ?_
  · simp (disch := first | assumption | omega | (simp only [szR, entC_len, entC_all, fdC_len, fdC_all] <;> omega) | rfl | decide) only [gen0, gen1, gen2, rulesM, litR, bolR, Nat.reduceAdd, Nat.reduceLeDiff, numR, memR, valR, heapR, updR, intR, decR, extR, slR, segR, thenR, pnR, Int.reduceToNat, Int.reduceAdd, Int.reduceSub, Int.reduceLT, Int.reduceLE, Nat.reduceSub, Nat.reduceMul, Nat.reduceEqDiff, gdPR, pN_pickE]
    exact check_spec fun w2 hx2 => ⟨rfl, keep _ _ h hx2⟩
  refine L7 _ ?_
  simp (disch := first | assumption | omega | (simp only [szR, entC_len, entC_all, fdC_len, fdC_all] <;> omega) | rfl | decide) only [gen0, gen1, gen2, rulesM, litR, bolR, Nat.reduceAdd, Nat.reduceLeDiff, numR, memR, valR, heapR, updR, intR, decR, extR, slR, segR, thenR, pnR, Int.reduceToNat, Int.reduceAdd, Int.reduceSub, Int.reduceLT, Int.reduceLE, Nat.reduceSub, Nat.reduceMul, Nat.reduceEqDiff, gdPR, pN_pickE]
  refine L50 _ ?_
  simp (disch := first | assumption | omega | (simp only [szR, entC_len, entC_all, fdC_len, fdC_all] <;> omega) | rfl | decide) only [gen0, gen1, gen2, rulesM, litR, bolR, Nat.reduceAdd, Nat.reduceLeDiff, numR, memR, valR, heapR, updR, intR, decR, extR, slR, segR, thenR, pnR, Int.reduceToNat, Int.reduceAdd, Int.reduceSub, Int.reduceLT, Int.reduceLE, Nat.reduceSub, Nat.reduceMul, Nat.reduceEqDiff, gdPR, pN_pickE]
  refine L51 _ ?_
  refine iN.intro (.int .i64 (checkA f k t g)) (fun w' h => ?_) ?_
  · simp (disch := first | assumption | omega | (simp only [szR, entC_len, entC_all, fdC_len, fdC_all] <;> omega) | rfl | decide) only [gen0, gen1, gen2, rulesM, litR, bolR, Nat.reduceAdd, Nat.reduceLeDiff, numR, memR, valR, heapR, updR, intR, decR, extR, slR, segR, thenR, pnR, Int.reduceToNat, Int.reduceAdd, Int.reduceSub, Int.reduceLT, Int.reduceLE, Nat.reduceSub, Nat.reduceMul, Nat.reduceEqDiff, gdPR, pN_pickE]
    exact rcheck_spec fun w2 hx2 => ⟨rfl, keep _ _ h hx2⟩
  simp (disch := first | assumption | omega | (simp only [szR, entC_len, entC_all, fdC_len, fdC_all] <;> omega) | rfl | decide) only [gen0, gen1, gen2, rulesM, litR, bolR, Nat.reduceAdd, Nat.reduceLeDiff, numR, memR, valR, heapR, updR, intR, decR, extR, slR, segR, thenR, pnR, Int.reduceToNat, Int.reduceAdd, Int.reduceSub, Int.reduceLT, Int.reduceLE, Nat.reduceSub, Nat.reduceMul, Nat.reduceEqDiff, gdPR, pN_pickE]
  refine L3 _ ?_
  simp (disch := first | assumption | omega | (simp only [szR, entC_len, entC_all, fdC_len, fdC_all] <;> omega) | rfl | decide) only [gen0, gen1, gen2, rulesM, litR, bolR, Nat.reduceAdd, Nat.reduceLeDiff, numR, memR, valR, heapR, updR, intR, decR, extR, slR, segR, thenR, pnR, Int.reduceToNat, Int.reduceAdd, Int.reduceSub, Int.reduceLT, Int.reduceLE, Nat.reduceSub, Nat.reduceMul, Nat.reduceEqDiff, gdPR, pN_pickE]
  refine L50 _ ?_
  simp (disch := first | assumption | omega | (simp only [szR, entC_len, entC_all, fdC_len, fdC_all] <;> omega) | rfl | decide) only [gen0, gen1, gen2, rulesM, litR, bolR, Nat.reduceAdd, Nat.reduceLeDiff, numR, memR, valR, heapR, updR, intR, decR, extR, slR, segR, thenR, pnR, Int.reduceToNat, Int.reduceAdd, Int.reduceSub, Int.reduceLT, Int.reduceLE, Nat.reduceSub, Nat.reduceMul, Nat.reduceEqDiff, gdPR, pN_pickE]
  refine iN.intro (.agg (entC (markA f k t) n).toArray) (fun w' h => ?_) ?_
  · simp (disch := first | assumption | omega | (simp only [szR, entC_len, entC_all, fdC_len, fdC_all] <;> omega) | rfl | decide) only [gen0, gen1, gen2, rulesM, litR, bolR, Nat.reduceAdd, Nat.reduceLeDiff, numR, memR, valR, heapR, updR, intR, decR, extR, slR, segR, thenR, pnR, Int.reduceToNat, Int.reduceAdd, Int.reduceSub, Int.reduceLT, Int.reduceLE, Nat.reduceSub, Nat.reduceMul, Nat.reduceEqDiff, gdPR, pN_pickE]
    exact Marked_spec fun w2 hx2 => ⟨rfl, keep _ _ h hx2⟩
  simp (disch := first | assumption | omega | (simp only [szR, entC_len, entC_all, fdC_len, fdC_all] <;> omega) | rfl | decide) only [gen0, gen1, gen2, rulesM, litR, bolR, Nat.reduceAdd, Nat.reduceLeDiff, numR, memR, valR, heapR, updR, intR, decR, extR, slR, segR, thenR, pnR, Int.reduceToNat, Int.reduceAdd, Int.reduceSub, Int.reduceLT, Int.reduceLE, Nat.reduceSub, Nat.reduceMul, Nat.reduceEqDiff, gdPR, pN_pickE]
  refine L7 _ ?_
  simp (disch := first | assumption | omega | (simp only [szR, entC_len, entC_all, fdC_len, fdC_all] <;> omega) | rfl | decide) only [gen0, gen1, gen2, rulesM, litR, bolR, Nat.reduceAdd, Nat.reduceLeDiff, numR, memR, valR, heapR, updR, intR, decR, extR, slR, segR, thenR, pnR, Int.reduceToNat, Int.reduceAdd, Int.reduceSub, Int.reduceLT, Int.reduceLE, Nat.reduceSub, Nat.reduceMul, Nat.reduceEqDiff, gdPR, pN_pickE]
  refine L50 _ ?_
  simp (disch := first | assumption | omega | (simp only [szR, entC_len, entC_all, fdC_len, fdC_all] <;> omega) | rfl | decide) only [gen0, gen1, gen2, rulesM, litR, bolR, Nat.reduceAdd, Nat.reduceLeDiff, numR, memR, valR, heapR, updR, intR, decR, extR, slR, segR, thenR, pnR, Int.reduceToNat, Int.reduceAdd, Int.reduceSub, Int.reduceLT, Int.reduceLE, Nat.reduceSub, Nat.reduceMul, Nat.reduceEqDiff, gdPR, pN_pickE]
  refine iN.intro (.agg (entC (markA f k t) n).toArray) (fun w' h => ?_) ?_
  · simp (disch := first | assumption | omega | (simp only [szR, entC_len, entC_all, fdC_len, fdC_all] <;> omega) | rfl | decide) only [gen0, gen1, gen2, rulesM, litR, bolR, Nat.reduceAdd, Nat.reduceLeDiff, numR, memR, valR, heapR, updR, intR, decR, extR, slR, segR, thenR, pnR, Int.reduceToNat, Int.reduceAdd, Int.reduceSub, Int.reduceLT, Int.reduceLE, Nat.reduceSub, Nat.reduceMul, Nat.reduceEqDiff, gdPR, pN_pickE]
    exact RMarked_spec fun w2 hx2 => ⟨rfl, keep _ _ h hx2⟩
  simp (disch := first | assumption | omega | (simp only [szR, entC_len, entC_all, fdC_len, fdC_all] <;> omega) | rfl | decide) only [gen0, gen1, gen2, rulesM, litR, bolR, Nat.reduceAdd, Nat.reduceLeDiff, numR, memR, valR, heapR, updR, intR, decR, extR, slR, segR, thenR, pnR, Int.reduceToNat, Int.reduceAdd, Int.reduceSub, Int.reduceLT, Int.reduceLE, Nat.reduceSub, Nat.reduceMul, Nat.reduceEqDiff, gdPR, pN_pickE, eqlR, eqE_self]
  refine L3 _ ?_
  simp (disch := first | assumption | omega | (simp only [szR, entC_len, entC_all, fdC_len, fdC_all] <;> omega) | rfl | decide) only [gen0, gen1, gen2, rulesM, litR, bolR, Nat.reduceAdd, Nat.reduceLeDiff, numR, memR, valR, heapR, updR, intR, decR, extR, slR, segR, thenR, pnR, Int.reduceToNat, Int.reduceAdd, Int.reduceSub, Int.reduceLT, Int.reduceLE, Nat.reduceSub, Nat.reduceMul, Nat.reduceEqDiff, gdPR, pN_pickE]
  refine iN.intro (.bool (decide (k = 3) && !f 9)) (fun w' h => ?_) ?_
  · simp (disch := first | assumption | omega | (simp only [szR, entC_len, entC_all, fdC_len, fdC_all] <;> omega) | rfl | decide) only [gen0, gen1, gen2, rulesM, litR, bolR, Nat.reduceAdd, Nat.reduceLeDiff, numR, memR, valR, heapR, updR, intR, decR, extR, slR, segR, thenR, pnR, Int.reduceToNat, Int.reduceAdd, Int.reduceSub, Int.reduceLT, Int.reduceLE, Nat.reduceSub, Nat.reduceMul, Nat.reduceEqDiff, gdPR, pN_pickE]
    exact Strip_spec fun w2 hx2 => ⟨rfl, keep _ _ h hx2⟩
  by_cases h3 : k = 3
  · subst h3
    cases h9 : f 9
    all_goals
      simp (disch := first | assumption | omega | (simp only [szR, entC_len, entC_all, fdC_len, fdC_all] <;> omega) | rfl | decide) only [gen0, gen1, gen2, rulesM, litR, bolR, Nat.reduceAdd, Nat.reduceLeDiff, numR, memR, valR, heapR, updR, intR, decR, extR, slR, segR, thenR, pnR, Int.reduceToNat, Int.reduceAdd, Int.reduceSub, Int.reduceLT, Int.reduceLE, Nat.reduceSub, Nat.reduceMul, Nat.reduceEqDiff, gdPR, pN_pickE]
      refine L39 _ ?_
      simp (disch := first | assumption | omega | (simp only [szR, entC_len, entC_all, fdC_len, fdC_all] <;> omega) | rfl | decide) only [gen0, gen1, gen2, rulesM, litR, bolR, Nat.reduceAdd, Nat.reduceLeDiff, numR, memR, valR, heapR, updR, intR, decR, extR, slR, segR, thenR, pnR, Int.reduceToNat, Int.reduceAdd, Int.reduceSub, Int.reduceLT, Int.reduceLE, Nat.reduceSub, Nat.reduceMul, Nat.reduceEqDiff, gdPR, pN_pickE, h9]
      refine iN.intro (.bool true) (fun w' h => ?_) ?_
      · simp (disch := first | assumption | omega | (simp only [szR, entC_len, entC_all, fdC_len, fdC_all] <;> omega) | rfl | decide) only [gen0, gen1, gen2, rulesM, litR, bolR, Nat.reduceAdd, Nat.reduceLeDiff, numR, memR, valR, heapR, updR, intR, decR, extR, slR, segR, thenR, pnR, Int.reduceToNat, Int.reduceAdd, Int.reduceSub, Int.reduceLT, Int.reduceLE, Nat.reduceSub, Nat.reduceMul, Nat.reduceEqDiff]
        exact one_spec fun w2 hx2 => ⟨rfl, keep _ _ h hx2⟩
      simp (disch := first | assumption | omega | (simp only [szR, entC_len, entC_all, fdC_len, fdC_all] <;> omega) | rfl | decide) only [gen0, gen1, gen2, rulesM, litR, bolR, Nat.reduceAdd, Nat.reduceLeDiff, numR, memR, valR, heapR, updR, intR, decR, extR, slR, segR, thenR, pnR, Int.reduceToNat, Int.reduceAdd, Int.reduceSub, Int.reduceLT, Int.reduceLE, Nat.reduceSub, Nat.reduceMul, Nat.reduceEqDiff, gdPR, pN_pickE]
      exact allI_intro fun w' h => hK _ (hu _ h).1
  · simp (disch := first | assumption | omega | (simp only [szR, entC_len, entC_all, fdC_len, fdC_all] <;> omega) | rfl | decide) only [gen0, gen1, gen2, rulesM, litR, bolR, Nat.reduceAdd, Nat.reduceLeDiff, numR, memR, valR, heapR, updR, intR, decR, extR, slR, segR, thenR, pnR, Int.reduceToNat, Int.reduceAdd, Int.reduceSub, Int.reduceLT, Int.reduceLE, Nat.reduceSub, Nat.reduceMul, Nat.reduceEqDiff, gdPR, pN_pickE]
    refine iN.intro (.bool true) (fun w' h => ?_) ?_
    · simp (disch := first | assumption | omega | (simp only [szR, entC_len, entC_all, fdC_len, fdC_all] <;> omega) | rfl | decide) only [gen0, gen1, gen2, rulesM, litR, bolR, Nat.reduceAdd, Nat.reduceLeDiff, numR, memR, valR, heapR, updR, intR, decR, extR, slR, segR, thenR, pnR, Int.reduceToNat, Int.reduceAdd, Int.reduceSub, Int.reduceLT, Int.reduceLE, Nat.reduceSub, Nat.reduceMul, Nat.reduceEqDiff]
      exact one_spec fun w2 hx2 => ⟨rfl, keep _ _ h hx2⟩
    simp (disch := first | assumption | omega | (simp only [szR, entC_len, entC_all, fdC_len, fdC_all] <;> omega) | rfl | decide) only [gen0, gen1, gen2, rulesM, litR, bolR, Nat.reduceAdd, Nat.reduceLeDiff, numR, memR, valR, heapR, updR, intR, decR, extR, slR, segR, thenR, pnR, Int.reduceToNat, Int.reduceAdd, Int.reduceSub, Int.reduceLT, Int.reduceLE, Nat.reduceSub, Nat.reduceMul, Nat.reduceEqDiff, gdPR, pN_pickE]
    exact allI_intro fun w' h => hK _ (hu _ h).1
end Go.Proofs.Ytbigiabcgplkgaa
