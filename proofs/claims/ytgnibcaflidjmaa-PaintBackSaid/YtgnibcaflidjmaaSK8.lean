/- Spans painted one by one; conditions: those of each theorem. -/
import Derived.Test.YtgnibcaflidjmaaSK7
namespace Go.Proofs.Ytgnibcaflidjmaa
open Go.Fx Go.ChangeShapes Go.WideShapes
set_option maxRecDepth 100000
set_option linter.unusedSimpArgs false
set_option linter.unusedVariables false
theorem Bm.ne' {w : World} {m b : Nat} {B : Nat → Bool} {l : List Value} {t : TypeId} {f : Nat × Nat} (h : Bm w (some m) B) (hb : w.heap[b]? = some (.cells l.toArray t f)) : m ≠ b := by
  rintro rfl
  obtain ⟨l0, ⟨⟨es, c, h2, _⟩, _⟩, _⟩ := h
  rw [hb] at h2
  cases h2
set_option maxHeartbeats 600000 in
theorem onep_region {w : World} {l : List (Nat × Nat)} {v0 : Value} {i b6 : Nat} {o : Option Nat} {A : Nat → Bool} (hv : RowsAt w v0 2 (l.map spC)) (hs : ∀ s ∈ l, spOk s) (hi : i < l.length) (h6 : w.heap[b6]? = some (.cells [.map o].toArray 50 (0, 0))) (hb : Bm w o A)
    {v6 : Value} {s0 s2 : List Value} (e6 : v6 = .pointer (some ⟨b6, 0, none⟩)) (es : s0 = [v0]) (es2 : s2 = [.int .i64 (i : Nat)]) {J4 : List Value → World → Prop}
    (hJ : ∀ m w', w'.heap[b6]? = some (.cells [.map (some m)].toArray 50 (0, 0)) → Bm w' (some m) (wth orB A l[i]) → Ext [b6] w w' → J4 [] w') : (drewK (fun w =>
  relX fun R6 =>
  postX R6 (fun p6_29 => allX R6 w fun V6 w => True → kV Try.prog (Instr.loadAt 50 v6) w (okX R6 w p6_29)) fun p6_29 =>
  postX R6 (fun p6_30 => allX R6 w fun V6 w => True → (okX R6 w p6_30) (s0.getD 0 undef) w) fun p6_30 =>
  postX R6 (fun p6_31 => allX R6 w fun V6 w => True → (okX R6 w p6_31) (s2.getD 0 undef) w) fun p6_31 =>
  postX R6 (fun p6_32 => allX R6 w fun V6 w => p6_30 (V6 30) w ∧ p6_31 (V6 31) w ∧ True → kV Try.prog (Instr.indexAt 55 (V6 30) (V6 31)) w (okX R6 w p6_32)) fun p6_32 =>
  postX R6 (fun p6_33 => allX R6 w fun V6 w => p6_32 (V6 32) w ∧ True → kV Try.prog (Instr.loadAt 47 (V6 32)) w (okX R6 w p6_33)) fun p6_33 =>
  postX R6 (fun p6_34 => allX R6 w fun V6 w => p6_33 (V6 33) w ∧ True → kV Try.prog (Instr.buildSlice 55 1 #[(0, (V6 33))]) w (okX R6 w p6_34)) fun p6_34 =>
  allX R6 w fun V6 w => p6_29 (V6 29) w ∧ p6_30 (V6 30) w ∧ p6_31 (V6 31) w ∧ p6_32 (V6 32) w ∧ p6_33 (V6 33) w ∧ p6_34 (V6 34) w ∧ True → xDist V6 [] →
  kN Try.prog (callN (.func (.func 18) #[] #[]) #[(V6 29), (V6 34)]) w fun v35 w =>
  kU Try.prog (Instr.storeAt 50 v6 v35) w fun _ w =>
  J4 [] w) w) := by
  subst e6 es es2
  have e1 : ∀ x : Value, sub [x] 0 1 = [x] := fun _ => rfl
  have e1b : ∀ x y : Value, splice [x] 0 [y] = [y] := fun _ _ => rfl
  have e3 : ∀ s : Nat × Nat, (spC s).length = 2 := fun _ => rfl
  rw [drewK_eq]
  have hd0 : Ext [] w w.drew := by (repeat first | assumption | exact Ext.refl | apply Ext.alloc | apply Ext.drew | (refine Ext.updN ?_ ?_; (focus first | omega | (simp only [szR] <;> omega))) | (refine Ext.updI ?_ ?_; (focus (simp; done))))
  replace hJ : ∀ m w', w'.heap[b6]? = some (.cells [.map (some m)].toArray 50 (0, 0)) → Bm w' (some m) (wth orB A l[i]) → Ext [b6] w.drew w' → J4 [] w' := fun m w' h1 h2 h3 => hJ m w' h1 h2 ((hd0.mono (by simp)).trans h3 (fun k hk => .inl hk))
  replace h6 := hd0.at h6 (by simp)
  replace hv := hv.ext hd0 (by simp)
  replace hb := hb.ext0 hd0
  clear hd0
  generalize w.drew = w at *
  have hsi := hs l[i] (List.getElem_mem hi)
  obtain ⟨bb, oo, L, E, f, hix, hbb, hfit, hblt, hblk, hsub, hget⟩ := RowsAt.ixR Try.underlying55 Try.sizeOf47 hv (k := i) (r := spC l[i]) (by simp [hi])
  have hix' : ∀ w, (Instr.indexAt 55 v0 (.int .i64 (i : Nat))).run Try.prog w = .ok (.pointer (some ⟨bb, oo, none⟩)) w := fun w => hix w .i64 _ rfl
  have hsub' := hsub oo rfl
  generalize l[i] = q at *
  refine relX.ext [] ?_
  refine postX.is (.agg [.map o].toArray) (fun v w1 hR hd => by
    clear hd
    have e := hR.at h6 (by simp)
    simp (disch := first | assumption | omega | (simp only [szR, tgC_len, tgC_all, tsC_len, tsC_all, spC_len] <;> omega) | rfl | decide) only [gen0, gen1, gen2, rulesV, rulesM, litR, bolR, Nat.reduceAdd, Nat.reduceLeDiff, numR, memR, valR, heapR, updR, intR, decR, extR, slR, segR, thenR, pnR, Int.reduceToNat, Int.reduceAdd, Int.reduceSub, Int.reduceLT, Int.reduceLE, Nat.reduceSub, Nat.reduceMul, Nat.reduceEqDiff, e, e1]
    exact okX.is) ?_
  refine postX.is v0 (fun v w1 hR hd => okX.is) ?_
  refine postX.is (.int .i64 (i : Nat)) (fun v w1 hR hd => okX.is) ?_
  refine postX.is (.pointer (some ⟨bb, oo, none⟩)) (fun v w1 hR hd => by
    obtain ⟨d1, d2, -⟩ := hd
    simp (disch := first | assumption | omega | (simp only [szR, tgC_len, tgC_all, tsC_len, tsC_all, spC_len] <;> omega) | rfl | decide) only [gen0, gen1, gen2, rulesV, rulesM, litR, bolR, Nat.reduceAdd, Nat.reduceLeDiff, numR, memR, valR, heapR, updR, intR, decR, extR, slR, segR, thenR, pnR, Int.reduceToNat, Int.reduceAdd, Int.reduceSub, Int.reduceLT, Int.reduceLE, Nat.reduceSub, Nat.reduceMul, Nat.reduceEqDiff, d1, d2, hix']
    exact okX.is) ?_
  refine postX.is (.agg (spC q).toArray) (fun v w1 hR hd => by
    obtain ⟨d1, -⟩ := hd
    have e := hR.at hbb (by simp)
    simp (disch := first | assumption | omega | (simp only [szR, tgC_len, tgC_all, tsC_len, tsC_all, spC_len] <;> omega) | rfl | decide) only [gen0, gen1, gen2, rulesV, rulesM, litR, bolR, Nat.reduceAdd, Nat.reduceLeDiff, numR, memR, valR, heapR, updR, intR, decR, extR, slR, segR, thenR, pnR, Int.reduceToNat, Int.reduceAdd, Int.reduceSub, Int.reduceLT, Int.reduceLE, Nat.reduceSub, Nat.reduceMul, Nat.reduceEqDiff, d1, e, hsub']
    exact okX.is) ?_
  refine postX.intro (fun v w1 => ∃ b, v = .slice (some ⟨b, 0, none⟩) 1 1 ∧ w1.heap[b]? = some (.cells (spC q).toArray 47 (0, 0))) (fun v a b hR ⟨x, h1, h2⟩ => ⟨x, h1, hR.at h2 (by simp)⟩) (fun v w1 hR hd => by
    obtain ⟨d1, -⟩ := hd
    simp (disch := first | assumption | omega | (simp only [szR, tgC_len, tgC_all, tsC_len, tsC_all, spC_len] <;> omega) | rfl | decide) only [gen0, gen1, gen2, rulesV, rulesM, litR, bolR, Nat.reduceAdd, Nat.reduceLeDiff, numR, memR, valR, heapR, updR, intR, decR, extR, slR, segR, thenR, pnR, Int.reduceToNat, Int.reduceAdd, Int.reduceSub, Int.reduceLT, Int.reduceLE, Nat.reduceSub, Nat.reduceMul, Nat.reduceEqDiff, d1, e3]
    refine okX.mk (by (repeat first | assumption | exact Ext.refl | apply Ext.alloc | apply Ext.drew | (refine Ext.updN ?_ ?_; (focus first | omega | (simp only [szR] <;> omega))) | (refine Ext.updI ?_ ?_; (focus (simp; done))))) ?_
    exact ⟨_, rfl, (by first | with_reducible rfl | assumption | (simp (disch := first | assumption | omega | (simp only [szR, tgC_len, tgC_all, tsC_len, tsC_all, spC_len] <;> omega) | rfl | decide) only [gen0, gen1, gen2, rulesV, rulesM, litR, bolR, Nat.reduceAdd, Nat.reduceLeDiff, numR, memR, valR, heapR, updR, intR, decR, extR, slR, segR, thenR, pnR, Int.reduceToNat, Int.reduceAdd, Int.reduceSub, Int.reduceLT, Int.reduceLE, Nat.reduceSub, Nat.reduceMul, Nat.reduceEqDiff] <;> rfl))⟩) ?_
  intro v w1 hR hd _
  obtain ⟨d1, -, -, -, -, ⟨b, d2, d3⟩, -⟩ := hd
  rw [d1, d2]
  simp (disch := first | assumption | omega | (simp only [szR, tgC_len, tgC_all, tsC_len, tsC_all, spC_len] <;> omega) | rfl | decide) only [gen0, gen1, gen2, rulesV, rulesM, litR, bolR, Nat.reduceAdd, Nat.reduceLeDiff, numR, memR, valR, heapR, updR, intR, decR, extR, slR, segR, thenR, pnR, Int.reduceToNat, Int.reduceAdd, Int.reduceSub, Int.reduceLT, Int.reduceLE, Nat.reduceSub, Nat.reduceMul, Nat.reduceEqDiff]
  refine paint_spec (l := [q]) (hb.ext0 hR) (RowsAt.one d3 rfl) (by simpa using hsi) fun m w2 hB hx => ?_
  have h62 := hx.at (hR.at h6 (by simp)) (by simp)
  have hlt := lt_of_at h62
  simp (disch := first | assumption | omega | (simp only [szR, tgC_len, tgC_all, tsC_len, tsC_all, spC_len] <;> omega) | rfl | decide) only [gen0, gen1, gen2, rulesV, rulesM, litR, bolR, Nat.reduceAdd, Nat.reduceLeDiff, numR, memR, valR, heapR, updR, intR, decR, extR, slR, segR, thenR, pnR, Int.reduceToNat, Int.reduceAdd, Int.reduceSub, Int.reduceLT, Int.reduceLE, Nat.reduceSub, Nat.reduceMul, Nat.reduceEqDiff, h62, e1b]
  have hxu : Ext [b6] w2 (World.upd w2 b6 [.map (some m)]) := Ext.updI (by simp) Ext.refl
  have hne := Bm.ne' hB h62
  exact hJ m _ (upd_at h62) (hB.ext hxu (fun m' e => by cases e; simpa using hne)) (((hR.trans hx (by simp)).mono (by simp)).trans hxu (fun k hk => .inl hk))
end Go.Proofs.Ytgnibcaflidjmaa
