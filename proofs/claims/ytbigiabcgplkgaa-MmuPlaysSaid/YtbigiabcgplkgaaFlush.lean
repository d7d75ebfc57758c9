/- Lines that are flushed; conditions: those of each theorem. -/
import Derived.Test.YtbigiabcgplkgaaOne12b
namespace Go.Proofs.Ytbigiabcgplkgaa
open Go.Fx
set_option maxRecDepth 100000
set_option linter.unusedSimpArgs false
set_option linter.unusedVariables false
/-- the first sets' lines dropped. -/
def dropTo (p : Ln → Bool) (S : Nat → List Ln) (k : Nat) : Nat → List Ln := fun j => if j < k then (S j).filter (fun l => !p l) else S j
theorem every_spec {w : World} {b : Nat} {S : Nat → List Ln} {T : List Value} {f : Value} {p : Ln → Bool} (hS : At w b S T) (h2 : Two S) (hf : Tells f p b w) {K : Value → World → Prop}
    (hK : ∀ w', At w' b (fun j => (S j).filter (fun l => !p l)) T → Ext [b] w w' → K (.tuple #[]) w') : callsK Try.prog 74 #[.pointer (some ⟨b, 0, none⟩), f] w K := by
  apply F74_ok
  unfold F74
  simp (disch := first | assumption | omega | (simp only [szR] <;> omega) | rfl | decide) only [gen0, gen1, gen2, rulesM, rulesU, litR, bolR, Nat.reduceAdd, Nat.reduceLeDiff, numR, memR, valR, heapR, updR, intR, decR, extR, slR, segR, thenR, pnR, Int.reduceToNat, Int.reduceAdd, Int.reduceSub, Int.reduceLT, Int.reduceLE, Nat.reduceSub, Nat.reduceMul, Nat.reduceEqDiff, Option.isNone_some]
  refine loopT.intro (fun st w' => ∃ (k : Nat) (z : Int), k ≤ 4 ∧ st = [.int .i64 z] ∧ z = k ∧ At w' b (dropTo p S k) T ∧ Ext [b] w w')
    (fun st _ => match st with
      | [.int _ z] => 4 - z.toNat
      | _ => 0) ⟨0, 0, by omega, rfl, rfl, (show dropTo p S 0 = S from funext fun j => if_neg (Nat.not_lt_zero j)) ▸ hS, Ext.refl⟩ ?_
  rintro st w' ⟨k, z, hk, rfl, rfl, hS', hx⟩ _
  have hfin : ∀ S' : Nat → List Ln, (∀ i, i < 4 → S' i = dropTo p S (k + 1) i) → tlbC S' = tlbC (dropTo p S (k + 1)) := by
    intro S' h
    simp [tlbC, h 0, h 1, h 2, h 3]
  by_cases h4 : k < 4
  · simp (disch := first | assumption | omega | (simp only [szR] <;> omega) | rfl | decide) only [gen0, gen1, gen2, rulesM, rulesU, litR, bolR, Nat.reduceAdd, Nat.reduceLeDiff, numR, memR, valR, heapR, updR, intR, decR, extR, slR, segR, thenR, pnR, Int.reduceToNat, Int.reduceAdd, Int.reduceSub, Int.reduceLT, Int.reduceLE, Nat.reduceSub, Nat.reduceMul, Nat.reduceEqDiff]
    have h2' : Two (dropTo p S k) := fun i => by
      unfold dropTo
      split
      · exact Nat.le_trans (List.length_filter_le _ _) (h2 i)
      · exact h2 i
    refine dropAt_spec hS' h2' h4 (hf.mono hx) fun w2 hS2 hx2 => ?_
    simp (disch := first | assumption | omega | (simp only [szR] <;> omega) | rfl | decide) only [gen0, gen1, gen2, rulesM, rulesU, litR, bolR, Nat.reduceAdd, Nat.reduceLeDiff, numR, memR, valR, heapR, updR, intR, decR, extR, slR, segR, thenR, pnR, Int.reduceToNat, Int.reduceAdd, Int.reduceSub, Int.reduceLT, Int.reduceLE, Nat.reduceSub, Nat.reduceMul, Nat.reduceEqDiff]
    refine ⟨⟨k + 1, _, by omega, rfl, by omega, ?_, hx.trans hx2 (by simp)⟩, by simp; omega⟩
    have e : put4 (dropTo p S k) k ((dropTo p S k k).filter (fun l => !p l)) = dropTo p S (k + 1) := by
      funext j
      unfold put4 dropTo
      by_cases hj : j = k
      · subst hj; simp
      · rw [if_neg hj]
        by_cases h1 : j < k
        · rw [if_pos h1, if_pos (by omega)]
        · rw [if_neg h1, if_neg (by omega)]
    rw [← e]; exact hS2
  · simp (disch := first | assumption | omega | (simp only [szR] <;> omega) | rfl | decide) only [gen0, gen1, gen2, rulesM, rulesU, litR, bolR, Nat.reduceAdd, Nat.reduceLeDiff, numR, memR, valR, heapR, updR, intR, decR, extR, slR, segR, thenR, pnR, Int.reduceToNat, Int.reduceAdd, Int.reduceSub, Int.reduceLT, Int.reduceLE, Nat.reduceSub, Nat.reduceMul, Nat.reduceEqDiff]
    refine hK _ ?_ hx
    obtain ⟨E, hb⟩ := hS'
    obtain rfl : k = 4 := by omega
    refine ⟨E, ?_⟩
    have : tlbC (dropTo p S 4) = tlbC (fun j => (S j).filter (fun l => !p l)) := by simp [tlbC, dropTo]
    rw [← this]; exact hb
theorem Flush_spec {w : World} {b : Nat} {S : Nat → List Ln} {T : List Value} {a : Int} (hS : At w b S T) (h2 : Two S) {K : Value → World → Prop}
    (hK : ∀ w', At w' b (fun j => (S j).filter (fun l => !(l.a == a))) T → Ext [b] w w' → K (.tuple #[]) w') : callsK Try.prog 31 #[.pointer (some ⟨b, 0, none⟩), .int .u64 a] w K := by
  have hlt := lt_of_at hS.choose_spec
  apply F31_ok
  unfold F31
  simp (disch := first | assumption | omega | (simp only [szR] <;> omega) | rfl | decide) only [gen0, gen1, gen2, rulesM, rulesU, litR, bolR, Nat.reduceAdd, Nat.reduceLeDiff, numR, memR, valR, heapR, updR, intR, decR, extR, slR, segR, thenR, pnR, Int.reduceToNat, Int.reduceAdd, Int.reduceSub, Int.reduceLT, Int.reduceLE, Nat.reduceSub, Nat.reduceMul, Nat.reduceEqDiff]
  have hx1 : Ext [] w (w.alloc (.cells [.int .u64 a].toArray 23)) := by (repeat first | assumption | exact Ext.refl | apply Ext.alloc | apply Ext.drew | (refine Ext.updN ?_ ?_; (focus first | omega | (simp only [szR] <;> omega))) | (refine Ext.updI ?_ ?_; (focus (simp; done))))
  refine every_spec (p := fun l => l.a == a) (hS.ext hx1 (by simp)) h2 ?_ fun w2 hS2 hx2 => ?_
  · intro l w' K hx hK
    have h1 := hx.at (b := w.heap.size) (o := .cells [.int .u64 a].toArray 23) (by simp (disch := first | assumption | omega | (simp only [szR] <;> omega) | rfl | decide) only [gen0, gen1, gen2, rulesM, rulesU, litR, bolR, Nat.reduceAdd, Nat.reduceLeDiff, numR, memR, valR, heapR, updR, intR, decR, extR, slR, segR, thenR, pnR, Int.reduceToNat, Int.reduceAdd, Int.reduceSub, Int.reduceLT, Int.reduceLE, Nat.reduceSub, Nat.reduceMul, Nat.reduceEqDiff]) (by simp; omega)
    simp (disch := first | assumption | omega | (simp only [szR] <;> omega) | rfl | decide) only [gen0, gen1, gen2, rulesM, rulesU, litR, bolR, Nat.reduceAdd, Nat.reduceLeDiff, numR, memR, valR, heapR, updR, intR, decR, extR, slR, segR, thenR, pnR, Int.reduceToNat, Int.reduceAdd, Int.reduceSub, Int.reduceLT, Int.reduceLE, Nat.reduceSub, Nat.reduceMul, Nat.reduceEqDiff]
    exact flush1_spec h1 hK
  · exact hK _ hS2 ((hx1.mono (by simp)).trans hx2 (by simp))
end Go.Proofs.Ytbigiabcgplkgaa
