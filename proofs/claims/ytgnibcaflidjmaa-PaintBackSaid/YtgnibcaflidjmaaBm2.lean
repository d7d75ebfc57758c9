/- Spans: whether one may be painted, and its part in a page; conditions: those of each theorem. -/
import Derived.Test.YtgnibcaflidjmaaBm
namespace Go.Proofs.Ytgnibcaflidjmaa
open Go.Fx
set_option maxRecDepth 100000
set_option linter.unusedSimpArgs false
set_option linter.unusedVariables false
/-- a span's cells. -/
def spC (s : Nat × Nat) : List Value := [.int .u64 (s.1 : Nat), .int .u64 (s.2 : Nat)]
def spOk (s : Nat × Nat) : Prop := s.1 < 18446744073709551616 ∧ s.2 < 18446744073709551616
def mayS (s : Nat × Nat) : Bool := decide (s.1 < s.2 ∧ s.2 ≤ 274877906944 ∧ (s.2 - 1) / 4096 - s.1 / 4096 < 64)
/-- the granules of a span. -/
def inS (s : Nat × Nat) (g : Nat) : Bool := decide (s.1 / 16 ≤ g ∧ g ≤ (s.2 - 1) / 16)
theorem number_spec {w : World} {a : Nat} (ha : a < 18446744073709551616) {K : Value → World → Prop} (hK : K (.int .u64 (a / 4096 : Nat)) w) : callsK Try.prog 44 #[.int .u64 (a : Int)] w K := by
  apply F44_ok
  unfold F44
  have : (a : Int).tdiv 4096 = ((a / 4096 : Nat) : Int) := by rw [Int.tdiv_eq_ediv_of_nonneg (by omega)]; rfl
  simp (disch := first | assumption | omega | (simp only [szR, tgC_len, tgC_all, tsC_len, tsC_all] <;> omega) | rfl | decide) only [gen0, gen1, gen2, rulesM, litR, bolR, Nat.reduceAdd, Nat.reduceLeDiff, numR, memR, valR, heapR, updR, intR, decR, extR, slR, segR, thenR, pnR, Int.reduceToNat, Int.reduceAdd, Int.reduceSub, Int.reduceLT, Int.reduceLE, Nat.reduceSub, Nat.reduceMul, Nat.reduceEqDiff, this]
  exact hK
theorem number_still {w : World} {a : Nat} (ha : a < 18446744073709551616) {K : Value → Prop} (hK : K (.int .u64 (a / 4096 : Nat))) : callsS Try.prog 44 #[.int .u64 (a : Int)] w K :=
  callsS.of _ (number_spec ha ⟨rfl, rfl⟩) hK
theorem may_spec {w : World} {s : Nat × Nat} (hs : spOk s) {K : Value → World → Prop} (hK : ∀ w', Ext [] w w' → K (.bool (mayS s)) w') : callsK Try.prog 62 #[.agg (spC s).toArray] w K := by
  apply F62_ok
  unfold F62
  obtain ⟨b, t⟩ := s
  obtain ⟨hb, ht⟩ := hs
  simp only at hb ht
  unfold spC
  by_cases h1 : b < t
  · by_cases h2 : t ≤ 274877906944
    · have e1 : (t : Int) - 1 = ((t - 1 : Nat) : Int) := by omega
      simp (disch := first | assumption | omega | (simp only [szR, tgC_len, tgC_all, tsC_len, tsC_all] <;> omega) | rfl | decide) only [gen0, gen1, gen2, rulesM, litR, bolR, Nat.reduceAdd, Nat.reduceLeDiff, numR, memR, valR, heapR, updR, intR, decR, extR, slR, segR, thenR, pnR, Int.reduceToNat, Int.reduceAdd, Int.reduceSub, Int.reduceLT, Int.reduceLE, Nat.reduceSub, Nat.reduceMul, Nat.reduceEqDiff, joinBR, e1]
      refine number_still (by omega) ?_
      simp (disch := first | assumption | omega | (simp only [szR, tgC_len, tgC_all, tsC_len, tsC_all] <;> omega) | rfl | decide) only [gen0, gen1, gen2, rulesM, litR, bolR, Nat.reduceAdd, Nat.reduceLeDiff, numR, memR, valR, heapR, updR, intR, decR, extR, slR, segR, thenR, pnR, Int.reduceToNat, Int.reduceAdd, Int.reduceSub, Int.reduceLT, Int.reduceLE, Nat.reduceSub, Nat.reduceMul, Nat.reduceEqDiff, joinBR, if_true]
      refine number_still (by omega) ?_
      have e2 : (((t - 1) / 4096 : Nat) : Int) - ((b / 4096 : Nat) : Int) = (((t - 1) / 4096 - b / 4096 : Nat) : Int) := by omega
      by_cases h3 : (t - 1) / 4096 - b / 4096 < 64
      · simp (disch := first | assumption | omega | (simp only [szR, tgC_len, tgC_all, tsC_len, tsC_all] <;> omega) | rfl | decide) only [gen0, gen1, gen2, rulesM, litR, bolR, Nat.reduceAdd, Nat.reduceLeDiff, numR, memR, valR, heapR, updR, intR, decR, extR, slR, segR, thenR, pnR, Int.reduceToNat, Int.reduceAdd, Int.reduceSub, Int.reduceLT, Int.reduceLE, Nat.reduceSub, Nat.reduceMul, Nat.reduceEqDiff, joinBR, e2, if_true]
        rw [show mayS (b, t) = true from decide_eq_true ⟨h1, h2, h3⟩] at hK
        exact hK _ (by (repeat first | assumption | exact Ext.refl | apply Ext.alloc | apply Ext.drew | (refine Ext.updN ?_ ?_; (focus first | omega | (simp only [szR] <;> omega))) | (refine Ext.updI ?_ ?_; (focus (simp; done)))))
      · simp (disch := first | assumption | omega | (simp only [szR, tgC_len, tgC_all, tsC_len, tsC_all] <;> omega) | rfl | decide) only [gen0, gen1, gen2, rulesM, litR, bolR, Nat.reduceAdd, Nat.reduceLeDiff, numR, memR, valR, heapR, updR, intR, decR, extR, slR, segR, thenR, pnR, Int.reduceToNat, Int.reduceAdd, Int.reduceSub, Int.reduceLT, Int.reduceLE, Nat.reduceSub, Nat.reduceMul, Nat.reduceEqDiff, joinBR, e2, if_true]
        rw [show mayS (b, t) = false from decide_eq_false fun h => h3 h.2.2] at hK
        exact hK _ (by (repeat first | assumption | exact Ext.refl | apply Ext.alloc | apply Ext.drew | (refine Ext.updN ?_ ?_; (focus first | omega | (simp only [szR] <;> omega))) | (refine Ext.updI ?_ ?_; (focus (simp; done)))))
    · simp (disch := first | assumption | omega | (simp only [szR, tgC_len, tgC_all, tsC_len, tsC_all] <;> omega) | rfl | decide) only [gen0, gen1, gen2, rulesM, litR, bolR, Nat.reduceAdd, Nat.reduceLeDiff, numR, memR, valR, heapR, updR, intR, decR, extR, slR, segR, thenR, pnR, Int.reduceToNat, Int.reduceAdd, Int.reduceSub, Int.reduceLT, Int.reduceLE, Nat.reduceSub, Nat.reduceMul, Nat.reduceEqDiff, joinBR]
      rw [show mayS (b, t) = false from decide_eq_false fun h => h2 h.2.1] at hK
      exact hK _ (by (repeat first | assumption | exact Ext.refl | apply Ext.alloc | apply Ext.drew | (refine Ext.updN ?_ ?_; (focus first | omega | (simp only [szR] <;> omega))) | (refine Ext.updI ?_ ?_; (focus (simp; done)))))
  · simp (disch := first | assumption | omega | (simp only [szR, tgC_len, tgC_all, tsC_len, tsC_all] <;> omega) | rfl | decide) only [gen0, gen1, gen2, rulesM, litR, bolR, Nat.reduceAdd, Nat.reduceLeDiff, numR, memR, valR, heapR, updR, intR, decR, extR, slR, segR, thenR, pnR, Int.reduceToNat, Int.reduceAdd, Int.reduceSub, Int.reduceLT, Int.reduceLE, Nat.reduceSub, Nat.reduceMul, Nat.reduceEqDiff, joinBR]
    rw [show mayS (b, t) = false from decide_eq_false fun h => h1 h.1] at hK
    exact hK _ (by (repeat first | assumption | exact Ext.refl | apply Ext.alloc | apply Ext.drew | (refine Ext.updN ?_ ?_; (focus first | omega | (simp only [szR] <;> omega))) | (refine Ext.updI ?_ ?_; (focus (simp; done)))))
theorem cover_spec {w : World} {s : Nat × Nat} (hs : mayS s = true) {n : Nat} (hn : s.1 / 4096 ≤ n ∧ n ≤ (s.2 - 1) / 4096) {K : Value → World → Prop} (hK : ∀ w', Ext [] w w' → K (.agg (tsC fun j => inS s (256 * n + j)).toArray) w') : callsK Try.prog 63 #[.agg (spC s).toArray, .int .u64 (n : Int)] w K := by
  apply F63_ok
  unfold F63
  obtain ⟨b, t⟩ := s
  simp only [mayS, decide_eq_true_eq] at hs
  simp only at hn
  unfold spC
  obtain ⟨from', hf⟩ : ∃ x : Int, x = max (b : Int) (n * 4096) := ⟨_, rfl⟩
  obtain ⟨to', ht⟩ : ∃ x : Int, x = min (t : Int) (n * 4096 + 4096) := ⟨_, rfl⟩
  have hf2 : (n : Int) * 4096 ≤ from' ∧ from' < n * 4096 + 4096 := by omega
  have ht2 : from' + 1 ≤ to' ∧ to' ≤ n * 4096 + 4096 := by omega
  simp (disch := first | assumption | omega | (simp only [szR, tgC_len, tgC_all, tsC_len, tsC_all] <;> omega) | rfl | decide) only [gen0, gen1, gen2, rulesM, litR, bolR, Nat.reduceAdd, Nat.reduceLeDiff, numR, memR, valR, heapR, updR, intR, decR, extR, slR, segR, thenR, pnR, Int.reduceToNat, Int.reduceAdd, Int.reduceSub, Int.reduceLT, Int.reduceLE, Nat.reduceSub, Nat.reduceMul, Nat.reduceEqDiff, mnR, ← hf, ← ht]
  refine Cover_spec (by omega) (by omega) fun g w' h1 h2 h3 => ?_
  have hm : min (to' - from') (4096 - (from' - n * 4096)) = to' - from' := by omega
  rw [hm] at h2
  have he : tgC g = tsC fun j => inS (b, t) (256 * n + j) := tsC_of h1 fun j hj => by
    rw [h2 j hj]
    unfold inS
    rw [Bool.eq_iff_iff]
    simp only [decide_eq_true_eq]
    have q1 : (from' - n * 4096) / 16 ≤ (j : Int) ↔ b / 16 ≤ 256 * n + j := by omega
    have q2 : (j : Int) ≤ (from' - n * 4096 + (to' - from') - 1) / 16 ↔ 256 * n + j ≤ (t - 1) / 16 := by omega
    rw [q1, q2]
  rw [he]
  have e1 := h3.at (b := w.heap.size + 1) (o := .cells [.int .u64 0, .int .u64 0, .int .u64 0, .int .u64 0].toArray 88 (0, 0)) (by first | with_reducible rfl | assumption | (simp (disch := first | assumption | omega | (simp only [szR, tgC_len, tgC_all, tsC_len, tsC_all] <;> omega) | rfl | decide) only [gen0, gen1, gen2, rulesM, litR, bolR, Nat.reduceAdd, Nat.reduceLeDiff, numR, memR, valR, heapR, updR, intR, decR, extR, slR, segR, thenR, pnR, Int.reduceToNat, Int.reduceAdd, Int.reduceSub, Int.reduceLT, Int.reduceLE, Nat.reduceSub, Nat.reduceMul, Nat.reduceEqDiff] <;> rfl)) (by simp)
  have ho : ∀ f : Nat → Bool, splice [.int .u64 0, .int .u64 0, .int .u64 0, .int .u64 0] 0 (tsC f) = tsC f := fun f => by rw [← tsC_zero]; exact tsC_over _ _
  have ho2 : ∀ f : Nat → Bool, tsC f ++ List.drop (tsC f).length [.int .u64 0, .int .u64 0, .int .u64 0, .int .u64 0] = tsC f := fun f => by rw [← tsC_zero]; exact tsC_over2 _ _
  have h4 : Ext [] w w' := Ext.trans (by (repeat first | assumption | exact Ext.refl | apply Ext.alloc | apply Ext.drew | (refine Ext.updN ?_ ?_; (focus first | omega | (simp only [szR] <;> omega))) | (refine Ext.updI ?_ ?_; (focus (simp; done))))) h3 (by simp)
  simp (disch := first | assumption | omega | (simp only [szR, tgC_len, tgC_all, tsC_len, tsC_all] <;> omega) | rfl | decide) only [gen0, gen1, gen2, rulesM, litR, bolR, Nat.reduceAdd, Nat.reduceLeDiff, numR, memR, valR, heapR, updR, intR, decR, extR, slR, segR, thenR, pnR, Int.reduceToNat, Int.reduceAdd, Int.reduceSub, Int.reduceLT, Int.reduceLE, Nat.reduceSub, Nat.reduceMul, Nat.reduceEqDiff, e1, ho, ho2, tsC_sub]
  exact hK _ (by (repeat first | assumption | exact Ext.refl | apply Ext.alloc | apply Ext.drew | (refine Ext.updN ?_ ?_; (focus first | omega | (simp only [szR] <;> omega))) | (refine Ext.updI ?_ ?_; (focus (simp; done)))))
end Go.Proofs.Ytgnibcaflidjmaa
