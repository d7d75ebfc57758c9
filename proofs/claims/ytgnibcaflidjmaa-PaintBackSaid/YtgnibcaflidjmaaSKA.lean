/- What is painted, and wiped, of one span; conditions: those of each theorem. -/
import Derived.Test.YtgnibcaflidjmaaSK9
namespace Go.Proofs.Ytgnibcaflidjmaa
open Go.Fx Go.ChangeShapes Go.WideShapes
set_option maxRecDepth 100000
set_option linter.unusedSimpArgs false
set_option linter.unusedVariables false
set_option maxHeartbeats 800000 in
theorem pw_region {w : World} {A : Nat → Bool} {q : Nat × Nat} (hq : spOk q) {b5 b3 mb : Nat} (h5 : w.heap[b5]? = some (.cells [.map (some mb)].toArray 50 (0, 0))) (h3 : w.heap[b3]? = some (.cells (spC q).toArray 47 (0, 0))) (hA : Bm w (some mb) A)
    {v5 v3 : Value} (f5 : v5 = .pointer (some ⟨b5, 0, none⟩)) (f3 : v3 = .pointer (some ⟨b3, 0, none⟩)) {J15 : List Value → World → Prop}
    (hJ : ∀ b8 b9 mx my w', w'.heap[b8]? = some (.cells [.map (some mx)].toArray 50 (0, 0)) → w'.heap[b9]? = some (.cells [.map (some my)].toArray 50 (0, 0)) → Bm w' (some mx) (wth orB A q) → Bm w' (some my) (wth lessB A q) → Ext [] w w' → J15 [.pointer (some ⟨b8, 0, none⟩), .pointer (some ⟨b9, 0, none⟩)] w') : (drewK (fun w =>
  relX fun R20 =>
  postX R20 (fun p20_76 => allX R20 w fun V20 w => True → kV Try.prog (Instr.loadAt 50 v5) w (okX R20 w p20_76)) fun p20_76 =>
  postX R20 (fun p20_77 => allX R20 w fun V20 w => True → kV Try.prog (Instr.loadAt 47 v3) w (okX R20 w p20_77)) fun p20_77 =>
  postX R20 (fun p20_78 => allX R20 w fun V20 w => p20_77 (V20 77) w ∧ True → kV Try.prog (Instr.buildSlice 55 1 #[(0, (V20 77))]) w (okX R20 w p20_78)) fun p20_78 =>
  postX R20 (fun p20_79 => allX R20 w fun V20 w => p20_76 (V20 76) w ∧ p20_78 (V20 78) w ∧ True → kN Try.prog (callN (.func (.func 18) #[] #[]) #[(V20 76), (V20 78)]) w (okX R20 w p20_79)) fun p20_79 =>
  postX R20 (fun p20_80 => allX R20 w fun V20 w => True → kV Try.prog (Instr.loadAt 50 v5) w (okX R20 w p20_80)) fun p20_80 =>
  postX R20 (fun p20_81 => allX R20 w fun V20 w => True → kV Try.prog (Instr.loadAt 47 v3) w (okX R20 w p20_81)) fun p20_81 =>
  postX R20 (fun p20_82 => allX R20 w fun V20 w => p20_81 (V20 81) w ∧ True → kV Try.prog (Instr.buildSlice 55 1 #[(0, (V20 81))]) w (okX R20 w p20_82)) fun p20_82 =>
  postX R20 (fun p20_83 => allX R20 w fun V20 w => p20_79 (V20 79) w ∧ p20_80 (V20 80) w ∧ p20_82 (V20 82) w ∧ True → kN Try.prog (callN (.func (.func 19) #[] #[]) #[(V20 80), (V20 82)]) w (okX R20 w p20_83)) fun p20_83 =>
  postX R20 (fun p20_10 => allX R20 w fun V20 w => True → kV Try.prog (Instr.alloc 50 true (.tuple #[])) w (okX R20 w p20_10)) fun p20_10 =>
  postX R20 (fun p20_11 => allX R20 w fun V20 w => True → kV Try.prog (Instr.alloc 50 true (.tuple #[])) w (okX R20 w p20_11)) fun p20_11 =>
  allX R20 w fun V20 w => p20_76 (V20 76) w ∧ p20_77 (V20 77) w ∧ p20_78 (V20 78) w ∧ p20_79 (V20 79) w ∧ p20_80 (V20 80) w ∧ p20_81 (V20 81) w ∧ p20_82 (V20 82) w ∧ p20_83 (V20 83) w ∧ p20_10 (V20 10) w ∧ p20_11 (V20 11) w ∧ True → xDist V20 [10, 11] →
  kU Try.prog (Instr.storeAt 50 (V20 10) (V20 79)) w fun _ w =>
  kU Try.prog (Instr.storeAt 50 (V20 11) (V20 83)) w fun _ w =>
  J15 [(V20 10), (V20 11)] w) w) := by
  subst f5 f3
  have e1 : ∀ x : Value, sub [x] 0 1 = [x] := fun _ => rfl
  have e1b : ∀ x y : Value, splice [x] 0 [y] = [y] := fun _ _ => rfl
  have e2 : ∀ s : Nat × Nat, sub (spC s) 0 2 = spC s := fun _ => rfl
  have e3 : ∀ s : Nat × Nat, (spC s).length = 2 := fun _ => rfl
  rw [drewK_eq]
  have hd0 : Ext [] w w.drew := by (repeat first | assumption | exact Ext.refl | apply Ext.alloc | apply Ext.drew | (refine Ext.updN ?_ ?_; (focus first | omega | (simp only [szR] <;> omega))) | (refine Ext.updI ?_ ?_; (focus (simp; done))))
  replace hJ : ∀ b8 b9 mx my w', w'.heap[b8]? = some (.cells [.map (some mx)].toArray 50 (0, 0)) → w'.heap[b9]? = some (.cells [.map (some my)].toArray 50 (0, 0)) → Bm w' (some mx) (wth orB A q) → Bm w' (some my) (wth lessB A q) → Ext [] w.drew w' → J15 [.pointer (some ⟨b8, 0, none⟩), .pointer (some ⟨b9, 0, none⟩)] w' := fun b8 b9 mx my w' a b c d h => hJ b8 b9 mx my w' a b c d (hd0.trans h (by simp))
  replace h5 := hd0.at h5 (by simp)
  replace h3 := hd0.at h3 (by simp)
  replace hA := hA.ext0 hd0
  clear hd0
  generalize w.drew = w at *
  refine relX.ext [] ?_
  refine postX.is (.agg [.map (some mb)].toArray) (fun v w1 hR hd => by
    clear hd
    have e := hR.at h5 (by simp)
    simp (disch := first | assumption | omega | (simp only [szR, tgC_len, tgC_all, tsC_len, tsC_all, spC_len] <;> omega) | rfl | decide) only [gen0, gen1, gen2, rulesV, rulesM, litR, bolR, Nat.reduceAdd, Nat.reduceLeDiff, numR, memR, valR, heapR, updR, intR, decR, extR, slR, segR, thenR, pnR, Int.reduceToNat, Int.reduceAdd, Int.reduceSub, Int.reduceLT, Int.reduceLE, Nat.reduceSub, Nat.reduceMul, Nat.reduceEqDiff, e, e1]
    exact okX.is) ?_
  refine postX.is (.agg (spC q).toArray) (fun v w1 hR hd => by
    clear hd
    have e := hR.at h3 (by simp)
    simp (disch := first | assumption | omega | (simp only [szR, tgC_len, tgC_all, tsC_len, tsC_all, spC_len] <;> omega) | rfl | decide) only [gen0, gen1, gen2, rulesV, rulesM, litR, bolR, Nat.reduceAdd, Nat.reduceLeDiff, numR, memR, valR, heapR, updR, intR, decR, extR, slR, segR, thenR, pnR, Int.reduceToNat, Int.reduceAdd, Int.reduceSub, Int.reduceLT, Int.reduceLE, Nat.reduceSub, Nat.reduceMul, Nat.reduceEqDiff, e, e2, e3]
    exact okX.is) ?_
  refine postX.intro (fun v w1 => ∃ b, v = .slice (some ⟨b, 0, none⟩) 1 1 ∧ w1.heap[b]? = some (.cells (spC q).toArray 47 (0, 0))) (fun v a b hR ⟨x, h1, h2⟩ => ⟨x, h1, hR.at h2 (by simp)⟩) (fun v w1 hR hd => by
    obtain ⟨d1, -⟩ := hd
    simp (disch := first | assumption | omega | (simp only [szR, tgC_len, tgC_all, tsC_len, tsC_all, spC_len] <;> omega) | rfl | decide) only [gen0, gen1, gen2, rulesV, rulesM, litR, bolR, Nat.reduceAdd, Nat.reduceLeDiff, numR, memR, valR, heapR, updR, intR, decR, extR, slR, segR, thenR, pnR, Int.reduceToNat, Int.reduceAdd, Int.reduceSub, Int.reduceLT, Int.reduceLE, Nat.reduceSub, Nat.reduceMul, Nat.reduceEqDiff, d1, e3]
    refine okX.mk (by (repeat first | assumption | exact Ext.refl | apply Ext.alloc | apply Ext.drew | (refine Ext.updN ?_ ?_; (focus first | omega | (simp only [szR] <;> omega))) | (refine Ext.updI ?_ ?_; (focus (simp; done))))) ?_
    exact ⟨_, rfl, (by first | with_reducible rfl | assumption | (simp (disch := first | assumption | omega | (simp only [szR, tgC_len, tgC_all, tsC_len, tsC_all, spC_len] <;> omega) | rfl | decide) only [gen0, gen1, gen2, rulesV, rulesM, litR, bolR, Nat.reduceAdd, Nat.reduceLeDiff, numR, memR, valR, heapR, updR, intR, decR, extR, slR, segR, thenR, pnR, Int.reduceToNat, Int.reduceAdd, Int.reduceSub, Int.reduceLT, Int.reduceLE, Nat.reduceSub, Nat.reduceMul, Nat.reduceEqDiff] <;> rfl))⟩) ?_
  refine postX.intro (fun v w1 => ∃ m, v = .agg [.map (some m)].toArray ∧ Bm w1 (some m) (wth orB A q)) (fun v a b hR ⟨x, h1, h2⟩ => ⟨x, h1, h2.ext0 hR⟩) (fun v w1 hR hd => by
    obtain ⟨d1, ⟨b, d2, d3⟩, -⟩ := hd
    rw [d1, d2]
    simp (disch := first | assumption | omega | (simp only [szR, tgC_len, tgC_all, tsC_len, tsC_all, spC_len] <;> omega) | rfl | decide) only [gen0, gen1, gen2, rulesV, rulesM, litR, bolR, Nat.reduceAdd, Nat.reduceLeDiff, numR, memR, valR, heapR, updR, intR, decR, extR, slR, segR, thenR, pnR, Int.reduceToNat, Int.reduceAdd, Int.reduceSub, Int.reduceLT, Int.reduceLE, Nat.reduceSub, Nat.reduceMul, Nat.reduceEqDiff]
    exact paint_spec (l := [q]) (hA.ext0 hR) (RowsAt.one d3 rfl) (by simpa using hq) fun m w2 hB hx => okX.mk hx ⟨m, rfl, hB⟩) ?_
  refine postX.is (.agg [.map (some mb)].toArray) (fun v w1 hR hd => by
    clear hd
    have e := hR.at h5 (by simp)
    simp (disch := first | assumption | omega | (simp only [szR, tgC_len, tgC_all, tsC_len, tsC_all, spC_len] <;> omega) | rfl | decide) only [gen0, gen1, gen2, rulesV, rulesM, litR, bolR, Nat.reduceAdd, Nat.reduceLeDiff, numR, memR, valR, heapR, updR, intR, decR, extR, slR, segR, thenR, pnR, Int.reduceToNat, Int.reduceAdd, Int.reduceSub, Int.reduceLT, Int.reduceLE, Nat.reduceSub, Nat.reduceMul, Nat.reduceEqDiff, e, e1]
    exact okX.is) ?_
  refine postX.is (.agg (spC q).toArray) (fun v w1 hR hd => by
    clear hd
    have e := hR.at h3 (by simp)
    simp (disch := first | assumption | omega | (simp only [szR, tgC_len, tgC_all, tsC_len, tsC_all, spC_len] <;> omega) | rfl | decide) only [gen0, gen1, gen2, rulesV, rulesM, litR, bolR, Nat.reduceAdd, Nat.reduceLeDiff, numR, memR, valR, heapR, updR, intR, decR, extR, slR, segR, thenR, pnR, Int.reduceToNat, Int.reduceAdd, Int.reduceSub, Int.reduceLT, Int.reduceLE, Nat.reduceSub, Nat.reduceMul, Nat.reduceEqDiff, e, e2, e3]
    exact okX.is) ?_
  refine postX.intro (fun v w1 => ∃ b, v = .slice (some ⟨b, 0, none⟩) 1 1 ∧ w1.heap[b]? = some (.cells (spC q).toArray 47 (0, 0))) (fun v a b hR ⟨x, h1, h2⟩ => ⟨x, h1, hR.at h2 (by simp)⟩) (fun v w1 hR hd => by
    obtain ⟨d1, -⟩ := hd
    simp (disch := first | assumption | omega | (simp only [szR, tgC_len, tgC_all, tsC_len, tsC_all, spC_len] <;> omega) | rfl | decide) only [gen0, gen1, gen2, rulesV, rulesM, litR, bolR, Nat.reduceAdd, Nat.reduceLeDiff, numR, memR, valR, heapR, updR, intR, decR, extR, slR, segR, thenR, pnR, Int.reduceToNat, Int.reduceAdd, Int.reduceSub, Int.reduceLT, Int.reduceLE, Nat.reduceSub, Nat.reduceMul, Nat.reduceEqDiff, d1, e3]
    refine okX.mk (by (repeat first | assumption | exact Ext.refl | apply Ext.alloc | apply Ext.drew | (refine Ext.updN ?_ ?_; (focus first | omega | (simp only [szR] <;> omega))) | (refine Ext.updI ?_ ?_; (focus (simp; done))))) ?_
    exact ⟨_, rfl, (by first | with_reducible rfl | assumption | (simp (disch := first | assumption | omega | (simp only [szR, tgC_len, tgC_all, tsC_len, tsC_all, spC_len] <;> omega) | rfl | decide) only [gen0, gen1, gen2, rulesV, rulesM, litR, bolR, Nat.reduceAdd, Nat.reduceLeDiff, numR, memR, valR, heapR, updR, intR, decR, extR, slR, segR, thenR, pnR, Int.reduceToNat, Int.reduceAdd, Int.reduceSub, Int.reduceLT, Int.reduceLE, Nat.reduceSub, Nat.reduceMul, Nat.reduceEqDiff] <;> rfl))⟩) ?_
  refine postX.intro (fun v w1 => ∃ m, v = .agg [.map (some m)].toArray ∧ Bm w1 (some m) (wth lessB A q)) (fun v a b hR ⟨x, h1, h2⟩ => ⟨x, h1, h2.ext0 hR⟩) (fun v w1 hR hd => by
    obtain ⟨d0, d1, ⟨b, d2, d3⟩, -⟩ := hd
    rw [d1, d2]
    simp (disch := first | assumption | omega | (simp only [szR, tgC_len, tgC_all, tsC_len, tsC_all, spC_len] <;> omega) | rfl | decide) only [gen0, gen1, gen2, rulesV, rulesM, litR, bolR, Nat.reduceAdd, Nat.reduceLeDiff, numR, memR, valR, heapR, updR, intR, decR, extR, slR, segR, thenR, pnR, Int.reduceToNat, Int.reduceAdd, Int.reduceSub, Int.reduceLT, Int.reduceLE, Nat.reduceSub, Nat.reduceMul, Nat.reduceEqDiff]
    exact wipe_spec (l := [q]) (hA.ext0 hR) (RowsAt.one d3 rfl) (by simpa using hq) fun m w2 hB hx => okX.mk hx ⟨m, rfl, hB⟩) ?_
  refine postX.intro (fun v w1 => ∃ b, v = .pointer (some ⟨b, 0, none⟩) ∧ w.heap.size ≤ b ∧ w1.heap[b]? = some (.cells [.map none].toArray 50 (0, 0))) (fun v a b hR ⟨x, h1, h2, h3⟩ => ⟨x, h1, h2, hR.at h3 (by simp)⟩) (fun v w1 hR hd => by
    have hs := hR.size
    simp (disch := first | assumption | omega | (simp only [szR, tgC_len, tgC_all, tsC_len, tsC_all, spC_len] <;> omega) | rfl | decide) only [gen0, gen1, gen2, rulesV, rulesM, litR, bolR, Nat.reduceAdd, Nat.reduceLeDiff, numR, memR, valR, heapR, updR, intR, decR, extR, slR, segR, thenR, pnR, Int.reduceToNat, Int.reduceAdd, Int.reduceSub, Int.reduceLT, Int.reduceLE, Nat.reduceSub, Nat.reduceMul, Nat.reduceEqDiff]
    exact okX.mk (by (repeat first | assumption | exact Ext.refl | apply Ext.alloc | apply Ext.drew | (refine Ext.updN ?_ ?_; (focus first | omega | (simp only [szR] <;> omega))) | (refine Ext.updI ?_ ?_; (focus (simp; done))))) ⟨_, rfl, hs, (by first | with_reducible rfl | assumption | (simp (disch := first | assumption | omega | (simp only [szR, tgC_len, tgC_all, tsC_len, tsC_all, spC_len] <;> omega) | rfl | decide) only [gen0, gen1, gen2, rulesV, rulesM, litR, bolR, Nat.reduceAdd, Nat.reduceLeDiff, numR, memR, valR, heapR, updR, intR, decR, extR, slR, segR, thenR, pnR, Int.reduceToNat, Int.reduceAdd, Int.reduceSub, Int.reduceLT, Int.reduceLE, Nat.reduceSub, Nat.reduceMul, Nat.reduceEqDiff] <;> rfl))⟩) ?_
  refine postX.intro (fun v w1 => ∃ b, v = .pointer (some ⟨b, 0, none⟩) ∧ w.heap.size ≤ b ∧ w1.heap[b]? = some (.cells [.map none].toArray 50 (0, 0))) (fun v a b hR ⟨x, h1, h2, h3⟩ => ⟨x, h1, h2, hR.at h3 (by simp)⟩) (fun v w1 hR hd => by
    have hs := hR.size
    simp (disch := first | assumption | omega | (simp only [szR, tgC_len, tgC_all, tsC_len, tsC_all, spC_len] <;> omega) | rfl | decide) only [gen0, gen1, gen2, rulesV, rulesM, litR, bolR, Nat.reduceAdd, Nat.reduceLeDiff, numR, memR, valR, heapR, updR, intR, decR, extR, slR, segR, thenR, pnR, Int.reduceToNat, Int.reduceAdd, Int.reduceSub, Int.reduceLT, Int.reduceLE, Nat.reduceSub, Nat.reduceMul, Nat.reduceEqDiff]
    exact okX.mk (by (repeat first | assumption | exact Ext.refl | apply Ext.alloc | apply Ext.drew | (refine Ext.updN ?_ ?_; (focus first | omega | (simp only [szR] <;> omega))) | (refine Ext.updI ?_ ?_; (focus (simp; done))))) ⟨_, rfl, hs, (by first | with_reducible rfl | assumption | (simp (disch := first | assumption | omega | (simp only [szR, tgC_len, tgC_all, tsC_len, tsC_all, spC_len] <;> omega) | rfl | decide) only [gen0, gen1, gen2, rulesV, rulesM, litR, bolR, Nat.reduceAdd, Nat.reduceLeDiff, numR, memR, valR, heapR, updR, intR, decR, extR, slR, segR, thenR, pnR, Int.reduceToNat, Int.reduceAdd, Int.reduceSub, Int.reduceLT, Int.reduceLE, Nat.reduceSub, Nat.reduceMul, Nat.reduceEqDiff] <;> rfl))⟩) ?_
  intro v w1 hR hd hdist
  obtain ⟨-, -, -, ⟨mx, f17, g17⟩, -, -, -, ⟨my, f21, g21⟩, ⟨b8, f8, l8, k8⟩, ⟨b9, f9, l9, k9⟩, -⟩ := hd
  have hne : b8 ≠ b9 := by
    have : v 10 ≠ v 11 := by simpa [xDist] using hdist
    rintro rfl
    exact this (f8.trans f9.symm)
  rw [f8, f17, f9, f21]
  have hlt8 := lt_of_at k8
  have hlt9 := lt_of_at k9
  have hx1 : Ext [b8] w1 (World.upd w1 b8 [.map (some mx)]) := by (repeat first | assumption | exact Ext.refl | apply Ext.alloc | apply Ext.drew | (refine Ext.updN ?_ ?_; (focus first | omega | (simp only [szR] <;> omega))) | (refine Ext.updI ?_ ?_; (focus (simp; done))))
  have hx2 : Ext [b9] (World.upd w1 b8 [.map (some mx)]) (World.upd (World.upd w1 b8 [.map (some mx)]) b9 [.map (some my)]) := by (repeat first | assumption | exact Ext.refl | apply Ext.alloc | apply Ext.drew | (refine Ext.updN ?_ ?_; (focus first | omega | (simp only [szR] <;> omega))) | (refine Ext.updI ?_ ?_; (focus (simp; done))))
  have hx3 : Ext [b8, b9] w1 (World.upd (World.upd w1 b8 [.map (some mx)]) b9 [.map (some my)]) := (hx1.mono (by simp)).trans hx2 (by simp)
  have hx4 : Ext [] w (World.upd (World.upd w1 b8 [.map (some mx)]) b9 [.map (some my)]) := hR.trans hx3 (by intro k hk; rcases List.mem_cons.1 hk with rfl | hk; exact .inr l8; simp at hk; subst hk; exact .inr l9)
  have k9' := hx1.at k9 (by simpa using Ne.symm hne)
  have k8' := hx2.at (upd_at (l := [.map (some mx)]) k8) (by simpa using hne)
  have n1 := Bm.ne' g17 k8
  have n2 := Bm.ne' g17 k9
  have n3 := Bm.ne' g21 k8
  have n4 := Bm.ne' g21 k9
  simp (disch := first | assumption | omega | (simp only [szR, tgC_len, tgC_all, tsC_len, tsC_all, spC_len] <;> omega) | rfl | decide) only [gen0, gen1, gen2, rulesV, rulesM, litR, bolR, Nat.reduceAdd, Nat.reduceLeDiff, numR, memR, valR, heapR, updR, intR, decR, extR, slR, segR, thenR, pnR, Int.reduceToNat, Int.reduceAdd, Int.reduceSub, Int.reduceLT, Int.reduceLE, Nat.reduceSub, Nat.reduceMul, Nat.reduceEqDiff, k8, k9', e1b]
  exact hJ b8 b9 mx my _ k8' (upd_at k9') (g17.ext hx3 fun m' e => by cases e; simp [n1, n2]) (g21.ext hx3 fun m' e => by cases e; simp [n3, n4]) hx4
end Go.Proofs.Ytgnibcaflidjmaa
