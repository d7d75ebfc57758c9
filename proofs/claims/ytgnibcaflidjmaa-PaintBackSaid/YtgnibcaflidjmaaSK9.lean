/- How many are painted, and again; conditions: those of each theorem. -/
import Derived.Test.YtgnibcaflidjmaaSK8
namespace Go.Proofs.Ytgnibcaflidjmaa
open Go.Fx Go.ChangeShapes Go.WideShapes
set_option maxRecDepth 100000
set_option linter.unusedSimpArgs false
set_option linter.unusedVariables false
set_option maxHeartbeats 800000 in
theorem counts_region {w : World} {l l1 : List (Nat × Nat)} {b5 b6 b8 mb ma : Nat} {o6 : Option Nat} (hl : l.length ≤ 12) (h5 : w.heap[b5]? = some (.cells [.map (some mb)].toArray 50 (0, 0))) (h6 : w.heap[b6]? = some (.cells [.map o6].toArray 50 (0, 0))) (h8 : w.heap[b8]? = some (.cells [.map (some ma)].toArray 50 (0, 0)))
    (hB : Bm w (some mb) (bl l)) (hC : Bm w o6 (bl l)) (hA : Bm w (some ma) (bl (l1.map up))) (hcov : Cov l1 (fun g => bl l g = true)) (hF : ∃ ys, PagesOf (bl l) ys ∧ Asc ys 0 ys.length ∧ l1 = spF (bl l) ys)
    {v5 v6 v8 : Value} (e5 : v5 = .pointer (some ⟨b5, 0, none⟩)) (e6 : v6 = .pointer (some ⟨b6, 0, none⟩)) (e8 : v8 = .pointer (some ⟨b8, 0, none⟩)) {J7 : List Value → World → Prop}
    (hJ : ∀ w', Ext [] w w' → J7 [.bool false] w') : (drewK (fun w =>
  relX fun R21 =>
  postX R21 (fun p21_40 => allX R21 w fun V21 w => True → kV Try.prog (Instr.loadAt 50 v5) w (okX R21 w p21_40)) fun p21_40 =>
  postX R21 (fun p21_41 => allX R21 w fun V21 w => p21_40 (V21 40) w ∧ True → kN Try.prog (callN (.func (.func 21) #[] #[]) #[(V21 40)]) w (okX R21 w p21_41)) fun p21_41 =>
  postX R21 (fun p21_42 => allX R21 w fun V21 w => True → kV Try.prog (Instr.loadAt 50 v6) w (okX R21 w p21_42)) fun p21_42 =>
  postX R21 (fun p21_43 => allX R21 w fun V21 w => p21_41 (V21 41) w ∧ p21_42 (V21 42) w ∧ True → kN Try.prog (callN (.func (.func 21) #[] #[]) #[(V21 42)]) w (okX R21 w p21_43)) fun p21_43 =>
  postX R21 (fun p21_44 => allX R21 w fun V21 w => p21_41 (V21 41) w ∧ p21_43 (V21 43) w ∧ True → kV Try.prog (binV .neq 3 (.tmp 41) (.tmp 43) (V21 41) (V21 43)) w (okX R21 w p21_44)) fun p21_44 =>
  postX R21 (fun p21_45 => allX R21 w fun V21 w => p21_43 (V21 43) w ∧ p21_44 (V21 44) w ∧ True → (okX R21 w p21_45) (V21 44) w) fun p21_45 =>
  postX R21 (fun p21_46 => allX R21 w fun V21 w => p21_45 (V21 45) w ∧ True → gdK (yb (V21 45)) false (fun k => kV Try.prog (Instr.loadAt 50 v8) w k) w (okX R21 w p21_46)) fun p21_46 =>
  postX R21 (fun p21_47 => allX R21 w fun V21 w => p21_45 (V21 45) w ∧ p21_46 (V21 46) w ∧ True → gdK (yb (V21 45)) false (fun k => kN Try.prog (callN (.func (.func 21) #[] #[]) #[(V21 46)]) w k) w (okX R21 w p21_47)) fun p21_47 =>
  postX R21 (fun p21_48 => allX R21 w fun V21 w => p21_45 (V21 45) w ∧ True → gdK (yb (V21 45)) false (fun k => kV Try.prog (Instr.loadAt 50 v5) w k) w (okX R21 w p21_48)) fun p21_48 =>
  postX R21 (fun p21_49 => allX R21 w fun V21 w => p21_45 (V21 45) w ∧ p21_47 (V21 47) w ∧ p21_48 (V21 48) w ∧ True → gdK (yb (V21 45)) false (fun k => kN Try.prog (callN (.func (.func 21) #[] #[]) #[(V21 48)]) w k) w (okX R21 w p21_49)) fun p21_49 =>
  postX R21 (fun p21_50 => allX R21 w fun V21 w => p21_45 (V21 45) w ∧ p21_47 (V21 47) w ∧ p21_49 (V21 49) w ∧ True → gdK (yb (V21 45)) false (fun k => kV Try.prog (binV .neq 3 (.tmp 47) (.tmp 49) (V21 47) (V21 49)) w k) w (okX R21 w p21_50)) fun p21_50 =>
  postX R21 (fun p21_51 => allX R21 w fun V21 w => p21_45 (V21 45) w ∧ p21_49 (V21 49) w ∧ p21_50 (V21 50) w ∧ True → gdK (yb (V21 45)) false (fun k => k (V21 50) w) w (okX R21 w p21_51)) fun p21_51 =>
  postX R21 (fun p21_52 => allX R21 w fun V21 w => p21_51 (V21 51) w ∧ True → gdK (yb (V21 51)) true (fun k => kV Try.prog (Instr.loadAt 50 v5) w k) w (okX R21 w p21_52)) fun p21_52 =>
  postX R21 (fun p21_53 => allX R21 w fun V21 w => p21_51 (V21 51) w ∧ p21_52 (V21 52) w ∧ True → gdK (yb (V21 51)) true (fun k => kN Try.prog (callN (.func (.func 23) #[] #[]) #[(V21 52)]) w k) w (okX R21 w p21_53)) fun p21_53 =>
  postX R21 (fun p21_54 => allX R21 w fun V21 w => p21_51 (V21 51) w ∧ p21_53 (V21 53) w ∧ True → gdK (yb (V21 51)) true (fun k => kN Try.prog (callN (.func (.func 24) #[] #[]) #[(V21 53)]) w k) w (okX R21 w p21_54)) fun p21_54 =>
  postX R21 (fun p21_55 => allX R21 w fun V21 w => p21_45 (V21 45) w ∧ p21_51 (V21 51) w ∧ p21_54 (V21 54) w ∧ True → gdK (yb (V21 45)) false (fun k => kN Try.prog (pickN (V21 51) (V21 54) (.bool false)) w k) w (okX R21 w p21_55)) fun p21_55 =>
  postX R21 (fun p21_56 => allX R21 w fun V21 w => p21_45 (V21 45) w ∧ p21_55 (V21 55) w ∧ True → kN Try.prog (pickN (V21 45) (.bool true) (V21 55)) w (okX R21 w p21_56)) fun p21_56 =>
  allX R21 w fun V21 w => p21_40 (V21 40) w ∧ p21_41 (V21 41) w ∧ p21_42 (V21 42) w ∧ p21_43 (V21 43) w ∧ p21_44 (V21 44) w ∧ p21_45 (V21 45) w ∧ p21_46 (V21 46) w ∧ p21_47 (V21 47) w ∧ p21_48 (V21 48) w ∧ p21_49 (V21 49) w ∧ p21_50 (V21 50) w ∧ p21_51 (V21 51) w ∧ p21_52 (V21 52) w ∧ p21_53 (V21 53) w ∧ p21_54 (V21 54) w ∧ p21_55 (V21 55) w ∧ p21_56 (V21 56) w ∧ True → xDist V21 [] →
  J7 [(V21 56)] w) w) := by
  subst e5 e6 e8
  have e1 : ∀ x : Value, sub [x] 0 1 = [x] := fun _ => rfl
  rw [drewK_eq]
  have hd0 : Ext [] w w.drew := by (repeat first | assumption | exact Ext.refl | apply Ext.alloc | apply Ext.drew | (refine Ext.updN ?_ ?_; (focus first | omega | (simp only [szR] <;> omega))) | (refine Ext.updI ?_ ?_; (focus (simp; done))))
  replace hJ : ∀ w', Ext [] w.drew w' → J7 [.bool false] w' := fun w' h => hJ w' (hd0.trans h (by simp))
  replace h5 := hd0.at h5 (by simp)
  replace h6 := hd0.at h6 (by simp)
  replace h8 := hd0.at h8 (by simp)
  replace hB := hB.ext0 hd0
  replace hC := hC.ext0 hd0
  replace hA := hA.ext0 hd0
  clear hd0
  generalize w.drew = w at *
  have hS : ∀ (q : List (Nat × Nat)) g, 256 * 67108864 ≤ g → bl q g = false := fun q g hg => bl_small hg
  obtain ⟨cB, hcB⟩ : ∃ c, c = cnt (bl l) (256 * 67108864) := ⟨_, rfl⟩
  obtain ⟨cA, hcA⟩ : ∃ c, c = cnt (bl (l1.map up)) (256 * 67108864) := ⟨_, rfl⟩
  have hfew : cA ≠ cB → ∀ s', (s' = true → ∀ s ∈ l1.map up, (s.2 - 1) / 4096 - s.1 / 4096 < 64) → s' = false := by
    intro hne s' hs'
    cases s' with
    | false => rfl
    | true => exact absurd (by rw [hcA, hcB, again hcov (hs' rfl)]) hne
  refine relX.ext [] ?_
  refine postX.is (.agg [.map (some mb)].toArray) (fun v w1 hR hd => by
    clear hd
    have e := hR.at h5 (by simp)
    simp (disch := first | assumption | omega | (simp only [szR, tgC_len, tgC_all, tsC_len, tsC_all, spC_len] <;> omega) | rfl | decide) only [gen0, gen1, gen2, rulesV, rulesM, litR, bolR, Nat.reduceAdd, Nat.reduceLeDiff, numR, memR, valR, heapR, updR, intR, decR, extR, slR, segR, thenR, pnR, Int.reduceToNat, Int.reduceAdd, Int.reduceSub, Int.reduceLT, Int.reduceLE, Nat.reduceSub, Nat.reduceMul, Nat.reduceEqDiff, e, e1]
    exact okX.is) ?_
  refine postX.is (.int .i64 (cB : Nat)) (fun v w1 hR hd => by
    obtain ⟨d1, -⟩ := hd
    simp (disch := first | assumption | omega | (simp only [szR, tgC_len, tgC_all, tsC_len, tsC_all, spC_len] <;> omega) | rfl | decide) only [gen0, gen1, gen2, rulesV, rulesM, litR, bolR, Nat.reduceAdd, Nat.reduceLeDiff, numR, memR, valR, heapR, updR, intR, decR, extR, slR, segR, thenR, pnR, Int.reduceToNat, Int.reduceAdd, Int.reduceSub, Int.reduceLT, Int.reduceLE, Nat.reduceSub, Nat.reduceMul, Nat.reduceEqDiff, d1]
    exact count_spec (hB.ext0 hR) (hS _) (by decide) fun w2 hx => okX.mk hx (by rw [hcB])) ?_
  refine postX.is (.agg [.map o6].toArray) (fun v w1 hR hd => by
    clear hd
    have e := hR.at h6 (by simp)
    simp (disch := first | assumption | omega | (simp only [szR, tgC_len, tgC_all, tsC_len, tsC_all, spC_len] <;> omega) | rfl | decide) only [gen0, gen1, gen2, rulesV, rulesM, litR, bolR, Nat.reduceAdd, Nat.reduceLeDiff, numR, memR, valR, heapR, updR, intR, decR, extR, slR, segR, thenR, pnR, Int.reduceToNat, Int.reduceAdd, Int.reduceSub, Int.reduceLT, Int.reduceLE, Nat.reduceSub, Nat.reduceMul, Nat.reduceEqDiff, e, e1]
    exact okX.is) ?_
  refine postX.is (.int .i64 (cB : Nat)) (fun v w1 hR hd => by
    obtain ⟨-, d1, -⟩ := hd
    simp (disch := first | assumption | omega | (simp only [szR, tgC_len, tgC_all, tsC_len, tsC_all, spC_len] <;> omega) | rfl | decide) only [gen0, gen1, gen2, rulesV, rulesM, litR, bolR, Nat.reduceAdd, Nat.reduceLeDiff, numR, memR, valR, heapR, updR, intR, decR, extR, slR, segR, thenR, pnR, Int.reduceToNat, Int.reduceAdd, Int.reduceSub, Int.reduceLT, Int.reduceLE, Nat.reduceSub, Nat.reduceMul, Nat.reduceEqDiff, d1]
    exact count_spec (hC.ext0 hR) (hS _) (by decide) fun w2 hx => okX.mk hx (by rw [hcB])) ?_
  refine postX.is (.bool false) (fun v w1 hR hd => by
    obtain ⟨d1, d2, -⟩ := hd
    simp (disch := first | assumption | omega | (simp only [szR, tgC_len, tgC_all, tsC_len, tsC_all, spC_len] <;> omega) | rfl | decide) only [gen0, gen1, gen2, rulesV, rulesM, litR, bolR, Nat.reduceAdd, Nat.reduceLeDiff, numR, memR, valR, heapR, updR, intR, decR, extR, slR, segR, thenR, pnR, Int.reduceToNat, Int.reduceAdd, Int.reduceSub, Int.reduceLT, Int.reduceLE, Nat.reduceSub, Nat.reduceMul, Nat.reduceEqDiff, d1, d2, beq_self_eq_true, decide_true, Bool.not_true]
    exact okX.is) ?_
  refine postX.is (.bool false) (fun v w1 hR hd => by
    obtain ⟨-, d1, -⟩ := hd
    simp (disch := first | assumption | omega | (simp only [szR, tgC_len, tgC_all, tsC_len, tsC_all, spC_len] <;> omega) | rfl | decide) only [gen0, gen1, gen2, rulesV, rulesM, litR, bolR, Nat.reduceAdd, Nat.reduceLeDiff, numR, memR, valR, heapR, updR, intR, decR, extR, slR, segR, thenR, pnR, Int.reduceToNat, Int.reduceAdd, Int.reduceSub, Int.reduceLT, Int.reduceLE, Nat.reduceSub, Nat.reduceMul, Nat.reduceEqDiff, d1]
    exact okX.is) ?_
  refine postX.is (.agg [.map (some ma)].toArray) (fun v w1 hR hd => by
    obtain ⟨d1, -⟩ := hd
    have e := hR.at h8 (by simp)
    simp (disch := first | assumption | omega | (simp only [szR, tgC_len, tgC_all, tsC_len, tsC_all, spC_len] <;> omega) | rfl | decide) only [gen0, gen1, gen2, rulesV, rulesM, litR, bolR, Nat.reduceAdd, Nat.reduceLeDiff, numR, memR, valR, heapR, updR, intR, decR, extR, slR, segR, thenR, pnR, Int.reduceToNat, Int.reduceAdd, Int.reduceSub, Int.reduceLT, Int.reduceLE, Nat.reduceSub, Nat.reduceMul, Nat.reduceEqDiff, d1, e, e1]
    exact okX.is) ?_
  refine postX.is (.int .i64 (cA : Nat)) (fun v w1 hR hd => by
    obtain ⟨d1, d2, -⟩ := hd
    simp (disch := first | assumption | omega | (simp only [szR, tgC_len, tgC_all, tsC_len, tsC_all, spC_len] <;> omega) | rfl | decide) only [gen0, gen1, gen2, rulesV, rulesM, litR, bolR, Nat.reduceAdd, Nat.reduceLeDiff, numR, memR, valR, heapR, updR, intR, decR, extR, slR, segR, thenR, pnR, Int.reduceToNat, Int.reduceAdd, Int.reduceSub, Int.reduceLT, Int.reduceLE, Nat.reduceSub, Nat.reduceMul, Nat.reduceEqDiff, d1, d2]
    exact count_spec (hA.ext0 hR) (hS _) (by decide) fun w2 hx => okX.mk hx (by rw [hcA])) ?_
  refine postX.is (.agg [.map (some mb)].toArray) (fun v w1 hR hd => by
    obtain ⟨d1, -⟩ := hd
    have e := hR.at h5 (by simp)
    simp (disch := first | assumption | omega | (simp only [szR, tgC_len, tgC_all, tsC_len, tsC_all, spC_len] <;> omega) | rfl | decide) only [gen0, gen1, gen2, rulesV, rulesM, litR, bolR, Nat.reduceAdd, Nat.reduceLeDiff, numR, memR, valR, heapR, updR, intR, decR, extR, slR, segR, thenR, pnR, Int.reduceToNat, Int.reduceAdd, Int.reduceSub, Int.reduceLT, Int.reduceLE, Nat.reduceSub, Nat.reduceMul, Nat.reduceEqDiff, d1, e, e1]
    exact okX.is) ?_
  refine postX.is (.int .i64 (cB : Nat)) (fun v w1 hR hd => by
    obtain ⟨d1, d2, d3, -⟩ := hd
    simp (disch := first | assumption | omega | (simp only [szR, tgC_len, tgC_all, tsC_len, tsC_all, spC_len] <;> omega) | rfl | decide) only [gen0, gen1, gen2, rulesV, rulesM, litR, bolR, Nat.reduceAdd, Nat.reduceLeDiff, numR, memR, valR, heapR, updR, intR, decR, extR, slR, segR, thenR, pnR, Int.reduceToNat, Int.reduceAdd, Int.reduceSub, Int.reduceLT, Int.reduceLE, Nat.reduceSub, Nat.reduceMul, Nat.reduceEqDiff, d1, d2, d3]
    exact count_spec (hB.ext0 hR) (hS _) (by decide) fun w2 hx => okX.mk hx (by rw [hcB])) ?_
  by_cases hZ : cA = cB
  · subst hZ
    refine postX.is (.bool false) (fun v w1 hR hd => by
      obtain ⟨d1, d2, d3, -⟩ := hd
      simp (disch := first | assumption | omega | (simp only [szR, tgC_len, tgC_all, tsC_len, tsC_all, spC_len] <;> omega) | rfl | decide) only [gen0, gen1, gen2, rulesV, rulesM, litR, bolR, Nat.reduceAdd, Nat.reduceLeDiff, numR, memR, valR, heapR, updR, intR, decR, extR, slR, segR, thenR, pnR, Int.reduceToNat, Int.reduceAdd, Int.reduceSub, Int.reduceLT, Int.reduceLE, Nat.reduceSub, Nat.reduceMul, Nat.reduceEqDiff, d1, d2, d3, beq_self_eq_true, decide_true, Bool.not_true]
      exact okX.is) ?_
    refine postX.is (.bool false) (fun v w1 hR hd => by
      obtain ⟨d1, d2, d3, -⟩ := hd
      simp (disch := first | assumption | omega | (simp only [szR, tgC_len, tgC_all, tsC_len, tsC_all, spC_len] <;> omega) | rfl | decide) only [gen0, gen1, gen2, rulesV, rulesM, litR, bolR, Nat.reduceAdd, Nat.reduceLeDiff, numR, memR, valR, heapR, updR, intR, decR, extR, slR, segR, thenR, pnR, Int.reduceToNat, Int.reduceAdd, Int.reduceSub, Int.reduceLT, Int.reduceLE, Nat.reduceSub, Nat.reduceMul, Nat.reduceEqDiff, d1, d2, d3]
      exact okX.is) ?_
    refine postX.is undef (fun v w1 hR hd => by
      obtain ⟨d1, -⟩ := hd
      simp (disch := first | assumption | omega | (simp only [szR, tgC_len, tgC_all, tsC_len, tsC_all, spC_len] <;> omega) | rfl | decide) only [gen0, gen1, gen2, rulesV, rulesM, litR, bolR, Nat.reduceAdd, Nat.reduceLeDiff, numR, memR, valR, heapR, updR, intR, decR, extR, slR, segR, thenR, pnR, Int.reduceToNat, Int.reduceAdd, Int.reduceSub, Int.reduceLT, Int.reduceLE, Nat.reduceSub, Nat.reduceMul, Nat.reduceEqDiff, d1]
      exact okX.is) ?_
    refine postX.is undef (fun v w1 hR hd => by
      obtain ⟨d1, d2, -⟩ := hd
      simp (disch := first | assumption | omega | (simp only [szR, tgC_len, tgC_all, tsC_len, tsC_all, spC_len] <;> omega) | rfl | decide) only [gen0, gen1, gen2, rulesV, rulesM, litR, bolR, Nat.reduceAdd, Nat.reduceLeDiff, numR, memR, valR, heapR, updR, intR, decR, extR, slR, segR, thenR, pnR, Int.reduceToNat, Int.reduceAdd, Int.reduceSub, Int.reduceLT, Int.reduceLE, Nat.reduceSub, Nat.reduceMul, Nat.reduceEqDiff, d1]
      exact okX.is) ?_
    refine postX.is undef (fun v w1 hR hd => by
      obtain ⟨d1, d2, -⟩ := hd
      simp (disch := first | assumption | omega | (simp only [szR, tgC_len, tgC_all, tsC_len, tsC_all, spC_len] <;> omega) | rfl | decide) only [gen0, gen1, gen2, rulesV, rulesM, litR, bolR, Nat.reduceAdd, Nat.reduceLeDiff, numR, memR, valR, heapR, updR, intR, decR, extR, slR, segR, thenR, pnR, Int.reduceToNat, Int.reduceAdd, Int.reduceSub, Int.reduceLT, Int.reduceLE, Nat.reduceSub, Nat.reduceMul, Nat.reduceEqDiff, d1]
      exact okX.is) ?_
    refine postX.is (.bool false) (fun v w1 hR hd => by
      obtain ⟨d1, d2, -⟩ := hd
      simp (disch := first | assumption | omega | (simp only [szR, tgC_len, tgC_all, tsC_len, tsC_all, spC_len] <;> omega) | rfl | decide) only [gen0, gen1, gen2, rulesV, rulesM, litR, bolR, Nat.reduceAdd, Nat.reduceLeDiff, numR, memR, valR, heapR, updR, intR, decR, extR, slR, segR, thenR, pnR, Int.reduceToNat, Int.reduceAdd, Int.reduceSub, Int.reduceLT, Int.reduceLE, Nat.reduceSub, Nat.reduceMul, Nat.reduceEqDiff, d1, d2]
      exact okX.is) ?_
    refine postX.is (.bool false) (fun v w1 hR hd => by
      obtain ⟨d1, d2, -⟩ := hd
      simp (disch := first | assumption | omega | (simp only [szR, tgC_len, tgC_all, tsC_len, tsC_all, spC_len] <;> omega) | rfl | decide) only [gen0, gen1, gen2, rulesV, rulesM, litR, bolR, Nat.reduceAdd, Nat.reduceLeDiff, numR, memR, valR, heapR, updR, intR, decR, extR, slR, segR, thenR, pnR, Int.reduceToNat, Int.reduceAdd, Int.reduceSub, Int.reduceLT, Int.reduceLE, Nat.reduceSub, Nat.reduceMul, Nat.reduceEqDiff, d1, d2]
      exact okX.is) ?_
    intro v w1 hR hd _
    have hl := hd
    simp only [and_true] at hl
    rw [hl.2.2.2.2.2.2.2.2.2.2.2.2.2.2.2.2]
    exact hJ w1 hR
  · have dz : decide (((cA : Nat) : Int) = ((cB : Nat) : Int)) = false := decide_eq_false (by omega)
    have dz2 : (((cA : Nat) : Int) == ((cB : Nat) : Int)) = false := by simp; omega
    refine postX.is (.bool true) (fun v w1 hR hd => by
      obtain ⟨d1, d2, d3, -⟩ := hd
      simp (disch := first | assumption | omega | (simp only [szR, tgC_len, tgC_all, tsC_len, tsC_all, spC_len] <;> omega) | rfl | decide) only [gen0, gen1, gen2, rulesV, rulesM, litR, bolR, Nat.reduceAdd, Nat.reduceLeDiff, numR, memR, valR, heapR, updR, intR, decR, extR, slR, segR, thenR, pnR, Int.reduceToNat, Int.reduceAdd, Int.reduceSub, Int.reduceLT, Int.reduceLE, Nat.reduceSub, Nat.reduceMul, Nat.reduceEqDiff, d1, d2, d3, dz, dz2, Bool.not_false]
      exact okX.is) ?_
    refine postX.is (.bool true) (fun v w1 hR hd => by
      obtain ⟨d1, d2, d3, -⟩ := hd
      simp (disch := first | assumption | omega | (simp only [szR, tgC_len, tgC_all, tsC_len, tsC_all, spC_len] <;> omega) | rfl | decide) only [gen0, gen1, gen2, rulesV, rulesM, litR, bolR, Nat.reduceAdd, Nat.reduceLeDiff, numR, memR, valR, heapR, updR, intR, decR, extR, slR, segR, thenR, pnR, Int.reduceToNat, Int.reduceAdd, Int.reduceSub, Int.reduceLT, Int.reduceLE, Nat.reduceSub, Nat.reduceMul, Nat.reduceEqDiff, d1, d2, d3]
      exact okX.is) ?_
    refine postX.is (.agg [.map (some mb)].toArray) (fun v w1 hR hd => by
      obtain ⟨d1, -⟩ := hd
      have e := hR.at h5 (by simp)
      simp (disch := first | assumption | omega | (simp only [szR, tgC_len, tgC_all, tsC_len, tsC_all, spC_len] <;> omega) | rfl | decide) only [gen0, gen1, gen2, rulesV, rulesM, litR, bolR, Nat.reduceAdd, Nat.reduceLeDiff, numR, memR, valR, heapR, updR, intR, decR, extR, slR, segR, thenR, pnR, Int.reduceToNat, Int.reduceAdd, Int.reduceSub, Int.reduceLT, Int.reduceLE, Nat.reduceSub, Nat.reduceMul, Nat.reduceEqDiff, d1, e, e1]
      exact okX.is) ?_
    refine postX.intro (fun v w1 => RowsAt w1 v 2 ((l1.map up).map spC) ∧ l1.length ≤ 256000) (fun v a b hR ⟨h1, h2⟩ => ⟨h1.ext hR (by simp), h2⟩) (fun v w1 hR hd => by
      obtain ⟨d1, d2, -⟩ := hd
      simp (disch := first | assumption | omega | (simp only [szR, tgC_len, tgC_all, tsC_len, tsC_all, spC_len] <;> omega) | rfl | decide) only [gen0, gen1, gen2, rulesV, rulesM, litR, bolR, Nat.reduceAdd, Nat.reduceLeDiff, numR, memR, valR, heapR, updR, intR, decR, extR, slR, segR, thenR, pnR, Int.reduceToNat, Int.reduceAdd, Int.reduceSub, Int.reduceLT, Int.reduceLE, Nat.reduceSub, Nat.reduceMul, Nat.reduceEqDiff, d1, d2]
      refine Spans_spec (hB.ext0 hR) (N := 768) (fun ys hy => by have := bl_pages hy; omega) (by omega) (fun k hk => by obtain ⟨s, -, -, -, h⟩ := bl_page hk; exact h) fun v l2 w2 ho hc hll hF2 hx => okX.mk hx ?_
      obtain ⟨ys, y1, y2, y3⟩ := hF
      obtain ⟨zs, z1, z2, z3⟩ := hF2
      have e := pages_one y1 z1 y2 z2
      subst e
      have e : l2 = l1 := z3.trans y3.symm
      subst e
      exact ⟨rowsU ho.rows, hll⟩) ?_
    refine postX.is (.bool false) (fun v w1 hR hd => by
      obtain ⟨d1, ⟨d2, d3⟩, -⟩ := hd
      simp (disch := first | assumption | omega | (simp only [szR, tgC_len, tgC_all, tsC_len, tsC_all, spC_len] <;> omega) | rfl | decide) only [gen0, gen1, gen2, rulesV, rulesM, litR, bolR, Nat.reduceAdd, Nat.reduceLeDiff, numR, memR, valR, heapR, updR, intR, decR, extR, slR, segR, thenR, pnR, Int.reduceToNat, Int.reduceAdd, Int.reduceSub, Int.reduceLT, Int.reduceLE, Nat.reduceSub, Nat.reduceMul, Nat.reduceEqDiff, d1]
      refine few_spec d2 (up_wf hcov) (by simp; omega) fun z w2 hz hx => okX.mk hx ?_
      rw [hfew hZ z hz]) ?_
    refine postX.is (.bool false) (fun v w1 hR hd => by
      obtain ⟨d1, d2, d3, -⟩ := hd
      simp (disch := first | assumption | omega | (simp only [szR, tgC_len, tgC_all, tsC_len, tsC_all, spC_len] <;> omega) | rfl | decide) only [gen0, gen1, gen2, rulesV, rulesM, litR, bolR, Nat.reduceAdd, Nat.reduceLeDiff, numR, memR, valR, heapR, updR, intR, decR, extR, slR, segR, thenR, pnR, Int.reduceToNat, Int.reduceAdd, Int.reduceSub, Int.reduceLT, Int.reduceLE, Nat.reduceSub, Nat.reduceMul, Nat.reduceEqDiff, d1, d2, d3]
      exact okX.is) ?_
    refine postX.is (.bool false) (fun v w1 hR hd => by
      obtain ⟨d1, d2, -⟩ := hd
      simp (disch := first | assumption | omega | (simp only [szR, tgC_len, tgC_all, tsC_len, tsC_all, spC_len] <;> omega) | rfl | decide) only [gen0, gen1, gen2, rulesV, rulesM, litR, bolR, Nat.reduceAdd, Nat.reduceLeDiff, numR, memR, valR, heapR, updR, intR, decR, extR, slR, segR, thenR, pnR, Int.reduceToNat, Int.reduceAdd, Int.reduceSub, Int.reduceLT, Int.reduceLE, Nat.reduceSub, Nat.reduceMul, Nat.reduceEqDiff, d1, d2]
      exact okX.is) ?_
    intro v w1 hR hd _
    have hl := hd
    simp only [and_true] at hl
    rw [hl.2.2.2.2.2.2.2.2.2.2.2.2.2.2.2.2]
    exact hJ w1 hR
end Go.Proofs.Ytgnibcaflidjmaa
