/- The document's tables: a page put in; conditions: those of each theorem. -/
import Derived.Test.YtfpcflmgipklcaaTGrow
namespace Go.Proofs.Ytfpcflmgipklcaa
open Go.Fx
set_option maxRecDepth 100000
set_option linter.unusedSimpArgs false
set_option linter.unusedVariables false
theorem relX.grow (N0 : Nat) (E0 : TypeId) (n : Nat) (F : List (List Value)) {G : (World → World → Prop) → Prop} (h : G (GrowW N0 E0 n F)) : relX G := ⟨GrowW N0 E0 n F, fun _ => GrowW.refl, fun _ _ _ h1 h2 => h1.trans h2, fun _ _ h => h.size, h⟩
theorem okX.isG {N0 : Nat} {E0 : TypeId} {n : Nat} {F : List (List Value)} {w : World} {v : Value} : okX (GrowW N0 E0 n F) w (fun u _ => u = v) v w := ⟨GrowW.refl, rfl⟩
theorem uC_one (F : List Nat) : ∀ r ∈ F.map uC, r.length = 1 := fun r hr => by
  obtain ⟨x, -, rfl⟩ := List.mem_map.1 hr
  rfl
theorem uC_cell (F : List Nat) : ∀ r ∈ F.map uC, r.all (fun v => v.oneCell') = true := fun r hr => by
  obtain ⟨x, -, rfl⟩ := List.mem_map.1 hr
  rfl
set_option maxHeartbeats 2000000
theorem ins_pages {w : World} {b4 j va c0 : Nat} {a0 : Option Addr} {u1 u2 u3 : Value} {P : List Nat} (hb : w.heap[b4]? = some (.cells (tvC (.slice a0 P.length c0) u1 u2 u3).toArray 37 (0, 0))) (ho : OwnR w 0 23 1 (.slice a0 P.length c0) (P.map uC)) (hj : j ≤ P.length) (hn : P.length < 100000) (hva : va < 18446744073709551616)
    (hu : ∃ a1 a2 a3 n1 n2 n3 c1 c2 c3, u1 = .slice a1 n1 c1 ∧ u2 = .slice a2 n2 c2 ∧ u3 = .slice a3 n3 c3) {v4 t1 : Value} {s12 : List Value} (e4 : v4 = .pointer (some ⟨b4, 0, none⟩)) (e1 : t1 = .int .u64 (va : Nat)) (es : s12.getD 0 undef = .int .i64 (j : Nat)) {J15 : List Value → World → Prop}
    (hJ : ∀ u0' w', OwnR w' 0 23 1 u0' ((P.take j ++ va / 4096 :: P.drop j).map uC) → w'.heap[b4]? = some (.cells (tvC u0' u1 u2 u3).toArray 37 (0, 0)) → Ext [b4] w w' → J15 [] w') : (drewK (fun w =>
  relX fun R21 =>
  postX R21 (fun p21_98 => allX R21 w fun V21 w => True → kV Try.prog (Instr.buildSlice 34 0 #[]) w (okX R21 w p21_98)) fun p21_98 =>
  postX R21 (fun p21_99 => allX R21 w fun V21 w => True → kV Try.prog (Instr.fieldAt 37 v4 0) w (okX R21 w p21_99)) fun p21_99 =>
  postX R21 (fun p21_100 => allX R21 w fun V21 w => p21_99 (V21 99) w ∧ True → kV Try.prog (Instr.loadAt 34 (V21 99)) w (okX R21 w p21_100)) fun p21_100 =>
  postX R21 (fun p21_101 => allX R21 w fun V21 w => True → (okX R21 w p21_101) (s12.getD 0 undef) w) fun p21_101 =>
  postX R21 (fun p21_102 => allX R21 w fun V21 w => p21_100 (V21 100) w ∧ p21_101 (V21 101) w ∧ True → kV Try.prog (Instr.sliceAt 34 (V21 100) none (some (V21 101)) none) w (okX R21 w p21_102)) fun p21_102 =>
  postX R21 (fun p21_103 => allX R21 w fun V21 w => p21_98 (V21 98) w ∧ p21_102 (V21 102) w ∧ True → kV Try.prog (Builtin.append_ #[34, 34] 34 #[(V21 98), (V21 102)]) w (okX R21 w p21_103)) fun p21_103 =>
  postX R21 (fun p21_104 => allX R21 w fun V21 w => True → (okX R21 w p21_104) t1 w) fun p21_104 =>
  postX R21 (fun p21_105 => allX R21 w fun V21 w => p21_104 (V21 104) w ∧ True → kV Try.prog (binV .quo 23 (.tmp 104) (.const (.int .u64 4096)) (V21 104) (.int .u64 4096)) w (okX R21 w p21_105)) fun p21_105 =>
  postX R21 (fun p21_106 => allX R21 w fun V21 w => p21_105 (V21 105) w ∧ True → kV Try.prog (Instr.buildSlice 34 1 #[(0, (V21 105))]) w (okX R21 w p21_106)) fun p21_106 =>
  postX R21 (fun p21_107 => allX R21 w fun V21 w => p21_103 (V21 103) w ∧ p21_106 (V21 106) w ∧ True → kV Try.prog (Builtin.append_ #[34, 34] 34 #[(V21 103), (V21 106)]) w (okX R21 w p21_107)) fun p21_107 =>
  postX R21 (fun p21_108 => allX R21 w fun V21 w => True → kV Try.prog (Instr.fieldAt 37 v4 0) w (okX R21 w p21_108)) fun p21_108 =>
  postX R21 (fun p21_109 => allX R21 w fun V21 w => p21_108 (V21 108) w ∧ True → kV Try.prog (Instr.loadAt 34 (V21 108)) w (okX R21 w p21_109)) fun p21_109 =>
  postX R21 (fun p21_110 => allX R21 w fun V21 w => True → (okX R21 w p21_110) (s12.getD 0 undef) w) fun p21_110 =>
  postX R21 (fun p21_111 => allX R21 w fun V21 w => p21_109 (V21 109) w ∧ p21_110 (V21 110) w ∧ True → kV Try.prog (Instr.sliceAt 34 (V21 109) (some (V21 110)) none none) w (okX R21 w p21_111)) fun p21_111 =>
  postX R21 (fun p21_112 => allX R21 w fun V21 w => p21_107 (V21 107) w ∧ p21_111 (V21 111) w ∧ True → kV Try.prog (Builtin.append_ #[34, 34] 34 #[(V21 107), (V21 111)]) w (okX R21 w p21_112)) fun p21_112 =>
  allX R21 w fun V21 w => p21_98 (V21 98) w ∧ p21_99 (V21 99) w ∧ p21_100 (V21 100) w ∧ p21_101 (V21 101) w ∧ p21_102 (V21 102) w ∧ p21_103 (V21 103) w ∧ p21_104 (V21 104) w ∧ p21_105 (V21 105) w ∧ p21_106 (V21 106) w ∧ p21_107 (V21 107) w ∧ p21_108 (V21 108) w ∧ p21_109 (V21 109) w ∧ p21_110 (V21 110) w ∧ p21_111 (V21 111) w ∧ p21_112 (V21 112) w ∧ True → xDist V21 [] →
  kV Try.prog (Instr.fieldAt 37 v4 0) w fun v113 w =>
  kU Try.prog (Instr.storeAt 34 v113 (V21 112)) w fun _ w =>
  J15 [] w) w) := by
  subst e4 e1
  obtain ⟨a1, a2, a3, n1, n2, n3, c1, c2, c3, rfl, rfl, rfl⟩ := hu
  rw [drewK_eq, es]
  have e2 : ((va : Nat) : Int) / 4096 = ((va / 4096 : Nat) : Int) := by omega
  have hk : va / 4096 < 18446744073709551616 := by omega
  generalize va / 4096 = k at *
  have hxd : Ext [] w w.drew := by (repeat first | assumption | exact Ext.refl | apply Ext.alloc | apply Ext.drew | (refine Ext.updN ?_ ?_; (focus first | omega | (simp only [szR] <;> omega))) | (refine Ext.updI ?_ ?_; (focus (simp; done))))
  obtain ⟨W, hW⟩ : ∃ W, W = w.drew := ⟨_, rfl⟩
  rw [← hW] at hxd ⊢
  have hb := hxd.at hb (by simp)
  have ho := ho.ext hxd (by simp)
  have lb := lt_of_at hb
  obtain ⟨F, hF⟩ : ∃ F, F = (P.take j ++ k :: P.drop j).map uC := ⟨_, rfl⟩
  have hF1 : ∀ r ∈ F, r.length = 1 := by rw [hF]; exact uC_one _
  have hF2 : ∀ r ∈ F, r.all (fun v => v.oneCell') = true := by rw [hF]; exact uC_cell _
  have hFl : F.length = P.length + 1 := by rw [hF]; simp; omega
  have ht1 : F.take j = (P.map uC).take j := by
    rw [hF, List.map_append, List.take_append_of_le_length (by simp; omega), List.map_take, List.take_take, Nat.min_self]
  have ht2 : (F.take (j + 1)).drop j = [uC k] := by
    rw [hF, List.map_append, List.map_cons, List.take_append, List.drop_append]
    simp [Nat.min_eq_left hj]
  have ht3 : (F.take (P.length + 1)).drop (j + 1) = (P.map uC).drop j := by
    rw [List.take_of_length_le (by omega), hF, List.map_append, List.map_cons, List.drop_append]
    simp [Nat.min_eq_left hj]
  have hrows := ho.rows
  have hblt := ho.blt
  have hsl : ∀ {w2 : World}, GrowW W.heap.size 23 1 F W w2 → RowsAt w2 (.slice a0 P.length c0) 1 (P.map uC) := fun hR => hR.rows hrows hblt
  refine relX.grow W.heap.size 23 1 F ?_
  refine postX.intro (fun v w' => OwnR w' W.heap.size 23 1 v (F.take 0) ∧ (0 = 0 → ∃ a, v = .slice a 0 0)) (fun v a b hR h => ⟨hR.own v 0 h.1, h.2⟩) (fun V w2 hR _ => ?_) ?_
  · simp (disch := first | assumption | omega | (simp only [szR, entC_len, entC_all, tvC_len, tvC_all] <;> omega) | rfl | decide) only [gen0, gen1, gen2, rulesM, rulesT, rulesQ, litR, bolR, Nat.reduceAdd, Nat.reduceLeDiff, numR, memR, valR, heapR, updR, intR, decR, extR, slR, segR, thenR, pnR, Int.reduceToNat, Int.reduceAdd, Int.reduceSub, Int.reduceLT, Int.reduceLE, Nat.reduceSub, Nat.reduceMul, Nat.reduceEqDiff]
    exact ⟨GrowW.of (Ext.alloc Ext.refl _ _), OwnR.fresh0 hR.size, fun _ => ⟨_, rfl⟩⟩
  refine postX.is (.pointer (some ⟨b4, 0, none⟩)) (fun V w2 hR _ => by simp (disch := first | assumption | omega | (simp only [szR, entC_len, entC_all, tvC_len, tvC_all] <;> omega) | rfl | decide) only [gen0, gen1, gen2, rulesM, rulesT, rulesQ, litR, bolR, Nat.reduceAdd, Nat.reduceLeDiff, numR, memR, valR, heapR, updR, intR, decR, extR, slR, segR, thenR, pnR, Int.reduceToNat, Int.reduceAdd, Int.reduceSub, Int.reduceLT, Int.reduceLE, Nat.reduceSub, Nat.reduceMul, Nat.reduceEqDiff]; exact okX.isG) ?_
  refine postX.is (.slice a0 P.length c0) (fun V w2 hR hd => by have e := hR.at hb lb; simp (disch := first | assumption | omega | (simp only [szR, entC_len, entC_all, tvC_len, tvC_all] <;> omega) | rfl | decide) only [gen0, gen1, gen2, rulesM, rulesT, rulesQ, litR, bolR, Nat.reduceAdd, Nat.reduceLeDiff, numR, memR, valR, heapR, updR, intR, decR, extR, slR, segR, thenR, pnR, Int.reduceToNat, Int.reduceAdd, Int.reduceSub, Int.reduceLT, Int.reduceLE, Nat.reduceSub, Nat.reduceMul, Nat.reduceEqDiff, hd, e, tvC_0]; exact okX.isG) ?_
  refine postX.is (.int .i64 (j : Nat)) (fun V w2 hR _ => okX.isG) ?_
  refine postX.intro (fun v w' => RowsAt w' v 1 ((F.take j).drop 0) ∧ ∀ b, blockOf v = some b → b < W.heap.size) (fun v a b hR h => ⟨hR.rows h.1 h.2, h.2⟩) (fun V w2 hR hd => ?_) ?_
  · simp (disch := first | assumption | omega | (simp only [szR, entC_len, entC_all, tvC_len, tvC_all] <;> omega) | rfl | decide) only [gen0, gen1, gen2, rulesM, rulesT, rulesQ, litR, bolR, Nat.reduceAdd, Nat.reduceLeDiff, numR, memR, valR, heapR, updR, intR, decR, extR, slR, segR, thenR, pnR, Int.reduceToNat, Int.reduceAdd, Int.reduceSub, Int.reduceLT, Int.reduceLE, Nat.reduceSub, Nat.reduceMul, Nat.reduceEqDiff, hd]
    refine kV_cut Try.underlying34 Try.sizeOf23 (hsl hR) 0 j (by omega) (by simp; omega) (.inl ⟨rfl, rfl⟩) (.inr ⟨.i64, (j : Nat), rfl, rfl⟩) fun v' hr hbv => ⟨GrowW.refl, by rw [ht1]; exact hr _ (hsl hR), fun b hb' => hblt b (by rw [← hbv]; exact hb')⟩
  refine postX.intro (fun v w' => OwnR w' W.heap.size 23 1 v (F.take j) ∧ (j = 0 → ∃ a, v = .slice a 0 0)) (fun v a b hR h => ⟨hR.own v j h.1, h.2⟩) (fun V w2 hR hd => ?_) ?_
  · obtain ⟨⟨h1, h2⟩, ⟨h3, h4⟩, -⟩ := hd
    rw [kV_eq]
    exact appG Try.underlying34 (by kernel_rfl) (by omega) (bytes := 8) hF1 hF2 h1 h2 (by omega) (by omega) h3 (by simp only [maxLen]; omega) (by omega) hR.size fun v' w' g1 g2 g3 => ⟨g3, g1, g2⟩
  refine postX.is (.int .u64 (va : Nat)) (fun V w2 hR _ => okX.isG) ?_
  refine postX.is (.int .u64 (k : Nat)) (fun V w2 hR hd => by simp (disch := first | assumption | omega | (simp only [szR, entC_len, entC_all, tvC_len, tvC_all] <;> omega) | rfl | decide) only [gen0, gen1, gen2, rulesM, rulesT, rulesQ, litR, bolR, Nat.reduceAdd, Nat.reduceLeDiff, numR, memR, valR, heapR, updR, intR, decR, extR, slR, segR, thenR, pnR, Int.reduceToNat, Int.reduceAdd, Int.reduceSub, Int.reduceLT, Int.reduceLE, Nat.reduceSub, Nat.reduceMul, Nat.reduceEqDiff, hd, e2]; exact okX.isG) ?_
  refine postX.intro (fun v w' => ∃ g, v = .slice (some ⟨g, 0, none⟩) 1 1 ∧ W.heap.size ≤ g ∧ w'.heap[g]? = some (.cells (uC k).toArray 23 (0, 0))) (fun v a b hR ⟨g, h1, h2, h3⟩ => ⟨g, h1, h2, hR.one g _ h2 h3 rfl⟩) (fun V w2 hR hd => ?_) ?_
  · simp (disch := first | assumption | omega | (simp only [szR, entC_len, entC_all, tvC_len, tvC_all] <;> omega) | rfl | decide) only [gen0, gen1, gen2, rulesM, rulesT, rulesQ, litR, bolR, Nat.reduceAdd, Nat.reduceLeDiff, numR, memR, valR, heapR, updR, intR, decR, extR, slR, segR, thenR, pnR, Int.reduceToNat, Int.reduceAdd, Int.reduceSub, Int.reduceLT, Int.reduceLE, Nat.reduceSub, Nat.reduceMul, Nat.reduceEqDiff, hd]
    exact ⟨GrowW.of (Ext.alloc Ext.refl _ _), _, rfl, hR.size, alloc_at rfl⟩
  refine postX.intro (fun v w' => OwnR w' W.heap.size 23 1 v (F.take (j + 1)) ∧ (j + 1 = 0 → ∃ a, v = .slice a 0 0)) (fun v a b hR h => ⟨hR.own v _ h.1, h.2⟩) (fun V w2 hR hd => ?_) ?_
  · obtain ⟨⟨h1, h2⟩, ⟨g, h3, h4, h5⟩, -⟩ := hd
    rw [kV_eq, h3]
    exact appG Try.underlying34 (by kernel_rfl) (by omega) (bytes := 8) hF1 hF2 h1 h2 (by omega) (by omega) (by rw [ht2]; exact RowsAt.one h5 rfl) (by simp only [maxLen]; omega) (by omega) hR.size fun v' w' g1 g2 g3 => ⟨g3, g1, g2⟩
  refine postX.is (.pointer (some ⟨b4, 0, none⟩)) (fun V w2 hR _ => by simp (disch := first | assumption | omega | (simp only [szR, entC_len, entC_all, tvC_len, tvC_all] <;> omega) | rfl | decide) only [gen0, gen1, gen2, rulesM, rulesT, rulesQ, litR, bolR, Nat.reduceAdd, Nat.reduceLeDiff, numR, memR, valR, heapR, updR, intR, decR, extR, slR, segR, thenR, pnR, Int.reduceToNat, Int.reduceAdd, Int.reduceSub, Int.reduceLT, Int.reduceLE, Nat.reduceSub, Nat.reduceMul, Nat.reduceEqDiff]; exact okX.isG) ?_
  refine postX.is (.slice a0 P.length c0) (fun V w2 hR hd => by have e := hR.at hb lb; simp (disch := first | assumption | omega | (simp only [szR, entC_len, entC_all, tvC_len, tvC_all] <;> omega) | rfl | decide) only [gen0, gen1, gen2, rulesM, rulesT, rulesQ, litR, bolR, Nat.reduceAdd, Nat.reduceLeDiff, numR, memR, valR, heapR, updR, intR, decR, extR, slR, segR, thenR, pnR, Int.reduceToNat, Int.reduceAdd, Int.reduceSub, Int.reduceLT, Int.reduceLE, Nat.reduceSub, Nat.reduceMul, Nat.reduceEqDiff, hd, e, tvC_0]; exact okX.isG) ?_
  refine postX.is (.int .i64 (j : Nat)) (fun V w2 hR _ => okX.isG) ?_
  refine postX.intro (fun v w' => RowsAt w' v 1 ((F.take (P.length + 1)).drop (j + 1)) ∧ ∀ b, blockOf v = some b → b < W.heap.size) (fun v a b hR h => ⟨hR.rows h.1 h.2, h.2⟩) (fun V w2 hR hd => ?_) ?_
  · simp (disch := first | assumption | omega | (simp only [szR, entC_len, entC_all, tvC_len, tvC_all] <;> omega) | rfl | decide) only [gen0, gen1, gen2, rulesM, rulesT, rulesQ, litR, bolR, Nat.reduceAdd, Nat.reduceLeDiff, numR, memR, valR, heapR, updR, intR, decR, extR, slR, segR, thenR, pnR, Int.reduceToNat, Int.reduceAdd, Int.reduceSub, Int.reduceLT, Int.reduceLE, Nat.reduceSub, Nat.reduceMul, Nat.reduceEqDiff, hd]
    refine kV_cut Try.underlying34 Try.sizeOf23 (hsl hR) j (P.map uC).length (by simp; omega) (Nat.le_refl _) (.inr ⟨.i64, (j : Nat), rfl, rfl⟩) (.inl ⟨rfl, rfl⟩) fun v' hr hbv => ⟨GrowW.refl, by have := hr _ (hsl hR); rw [List.take_length] at this; rw [ht3]; exact this, fun b hb' => hblt b (by rw [← hbv]; exact hb')⟩
  refine postX.intro (fun v w' => OwnR w' W.heap.size 23 1 v (F.take (P.length + 1)) ∧ (P.length + 1 = 0 → ∃ a, v = .slice a 0 0)) (fun v a b hR h => ⟨hR.own v _ h.1, h.2⟩) (fun V w2 hR hd => ?_) ?_
  · obtain ⟨⟨h1, h2⟩, ⟨h3, h4⟩, -⟩ := hd
    rw [kV_eq]
    exact appG Try.underlying34 (by kernel_rfl) (by omega) (bytes := 8) hF1 hF2 h1 h2 (by omega) (by omega) h3 (by simp only [maxLen]; omega) (by omega) hR.size fun v' w' g1 g2 g3 => ⟨g3, g1, g2⟩
  intro V w2 hR hd _
  obtain ⟨-, -, -, -, -, -, -, -, -, -, -, -, -, -, ⟨h1, -⟩, -⟩ := hd
  rw [List.take_of_length_le (i := P.length + 1) (l := F) (by omega)] at h1
  obtain ⟨a5, c5, hv5⟩ := h1.rows.len
  have hb2 := hR.at hb lb
  have lb2 := lt_of_at hb2
  rw [hv5] at h1
  simp (disch := first | assumption | omega | (simp only [szR, entC_len, entC_all, tvC_len, tvC_all] <;> omega) | rfl | decide) only [gen0, gen1, gen2, rulesM, rulesT, rulesQ, litR, bolR, Nat.reduceAdd, Nat.reduceLeDiff, numR, memR, valR, heapR, updR, intR, decR, extR, slR, segR, thenR, pnR, Int.reduceToNat, Int.reduceAdd, Int.reduceSub, Int.reduceLT, Int.reduceLE, Nat.reduceSub, Nat.reduceMul, Nat.reduceEqDiff, hb2, hv5, tv_set0]
  have hxu : Ext [b4] w2 (World.upd w2 b4 (tvC (.slice a5 F.length c5) (.slice a1 n1 c1) (.slice a2 n2 c2) (.slice a3 n3 c3))) := Ext.updI (by simp) Ext.refl
  refine hJ _ _ ?_ (upd_at hb2) (((hxd.trans hR.ext (by simp)).mono (by simp)).trans hxu (by simp))
  rw [← hF]
  exact (h1.low (Nat.zero_le _)).ext hxu (fun b hb hm => own_ne' h1 hb2 (by decide) (by rw [List.mem_singleton.1 hm] at hb; exact hb))
theorem entE_one (F : List EntE) : ∀ r ∈ F.map entE, r.length = 13 := fun r hr => by
  obtain ⟨x, -, rfl⟩ := List.mem_map.1 hr
  exact entC_len _ _
theorem entE_cell (F : List EntE) : ∀ r ∈ F.map entE, r.all (fun v => v.oneCell') = true := fun r hr => by
  obtain ⟨x, -, rfl⟩ := List.mem_map.1 hr
  exact entC_all _ _
theorem ins_entries {w : World} {b4 b6 j c0 : Nat} {a0 : Option Addr} {u1 u2 u3 : Value} {P : List EntE} {e : EntE} (hb : w.heap[b4]? = some (.cells (tvC u1 (.slice a0 P.length c0) u2 u3).toArray 37 (0, 0))) (ho : OwnR w 0 46 13 (.slice a0 P.length c0) (P.map entE)) (hj : j ≤ P.length) (hn : P.length < 100000) (hb6 : w.heap[b6]? = some (.cells (entE e).toArray 46 (0, 0)))
    (hu : ∃ a1 a2 a3 n1 n2 n3 c1 c2 c3, u1 = .slice a1 n1 c1 ∧ u2 = .slice a2 n2 c2 ∧ u3 = .slice a3 n3 c3) {v4 v6 : Value} {s12 : List Value} (e4 : v4 = .pointer (some ⟨b4, 0, none⟩)) (e1 : v6 = .pointer (some ⟨b6, 0, none⟩)) (es : s12.getD 0 undef = .int .i64 (j : Nat)) {J17 : List Value → World → Prop}
    (hJ : ∀ u0' w', OwnR w' 0 46 13 u0' ((P.take j ++ e :: P.drop j).map entE) → w'.heap[b4]? = some (.cells (tvC u1 u0' u2 u3).toArray 37 (0, 0)) → Ext [b4] w w' → J17 [] w') : (drewK (fun w =>
  relX fun R20 =>
  postX R20 (fun p20_114 => allX R20 w fun V20 w => True → kV Try.prog (Instr.buildSlice 35 0 #[]) w (okX R20 w p20_114)) fun p20_114 =>
  postX R20 (fun p20_115 => allX R20 w fun V20 w => True → kV Try.prog (Instr.fieldAt 37 v4 1) w (okX R20 w p20_115)) fun p20_115 =>
  postX R20 (fun p20_116 => allX R20 w fun V20 w => p20_115 (V20 115) w ∧ True → kV Try.prog (Instr.loadAt 35 (V20 115)) w (okX R20 w p20_116)) fun p20_116 =>
  postX R20 (fun p20_117 => allX R20 w fun V20 w => True → (okX R20 w p20_117) (s12.getD 0 undef) w) fun p20_117 =>
  postX R20 (fun p20_118 => allX R20 w fun V20 w => p20_116 (V20 116) w ∧ p20_117 (V20 117) w ∧ True → kV Try.prog (Instr.sliceAt 35 (V20 116) none (some (V20 117)) none) w (okX R20 w p20_118)) fun p20_118 =>
  postX R20 (fun p20_119 => allX R20 w fun V20 w => p20_114 (V20 114) w ∧ p20_118 (V20 118) w ∧ True → kV Try.prog (Builtin.append_ #[35, 35] 35 #[(V20 114), (V20 118)]) w (okX R20 w p20_119)) fun p20_119 =>
  postX R20 (fun p20_120 => allX R20 w fun V20 w => True → kV Try.prog (Instr.loadAt 46 v6) w (okX R20 w p20_120)) fun p20_120 =>
  postX R20 (fun p20_121 => allX R20 w fun V20 w => p20_120 (V20 120) w ∧ True → kV Try.prog (Instr.buildSlice 35 1 #[(0, (V20 120))]) w (okX R20 w p20_121)) fun p20_121 =>
  postX R20 (fun p20_122 => allX R20 w fun V20 w => p20_119 (V20 119) w ∧ p20_121 (V20 121) w ∧ True → kV Try.prog (Builtin.append_ #[35, 35] 35 #[(V20 119), (V20 121)]) w (okX R20 w p20_122)) fun p20_122 =>
  postX R20 (fun p20_123 => allX R20 w fun V20 w => True → kV Try.prog (Instr.fieldAt 37 v4 1) w (okX R20 w p20_123)) fun p20_123 =>
  postX R20 (fun p20_124 => allX R20 w fun V20 w => p20_123 (V20 123) w ∧ True → kV Try.prog (Instr.loadAt 35 (V20 123)) w (okX R20 w p20_124)) fun p20_124 =>
  postX R20 (fun p20_125 => allX R20 w fun V20 w => True → (okX R20 w p20_125) (s12.getD 0 undef) w) fun p20_125 =>
  postX R20 (fun p20_126 => allX R20 w fun V20 w => p20_124 (V20 124) w ∧ p20_125 (V20 125) w ∧ True → kV Try.prog (Instr.sliceAt 35 (V20 124) (some (V20 125)) none none) w (okX R20 w p20_126)) fun p20_126 =>
  postX R20 (fun p20_127 => allX R20 w fun V20 w => p20_122 (V20 122) w ∧ p20_126 (V20 126) w ∧ True → kV Try.prog (Builtin.append_ #[35, 35] 35 #[(V20 122), (V20 126)]) w (okX R20 w p20_127)) fun p20_127 =>
  allX R20 w fun V20 w => p20_114 (V20 114) w ∧ p20_115 (V20 115) w ∧ p20_116 (V20 116) w ∧ p20_117 (V20 117) w ∧ p20_118 (V20 118) w ∧ p20_119 (V20 119) w ∧ p20_120 (V20 120) w ∧ p20_121 (V20 121) w ∧ p20_122 (V20 122) w ∧ p20_123 (V20 123) w ∧ p20_124 (V20 124) w ∧ p20_125 (V20 125) w ∧ p20_126 (V20 126) w ∧ p20_127 (V20 127) w ∧ True → xDist V20 [] →
  kV Try.prog (Instr.fieldAt 37 v4 1) w fun v128 w =>
  kU Try.prog (Instr.storeAt 35 v128 (V20 127)) w fun _ w =>
  J17 [] w) w) := by
  subst e4 e1
  obtain ⟨a1, a2, a3, n1, n2, n3, c1, c2, c3, rfl, rfl, rfl⟩ := hu
  rw [drewK_eq, es]
  have hxd : Ext [] w w.drew := by (repeat first | assumption | exact Ext.refl | apply Ext.alloc | apply Ext.drew | (refine Ext.updN ?_ ?_; (focus first | omega | (simp only [szR] <;> omega))) | (refine Ext.updI ?_ ?_; (focus (simp; done))))
  obtain ⟨W, hW⟩ : ∃ W, W = w.drew := ⟨_, rfl⟩
  rw [← hW] at hxd ⊢
  have hb := hxd.at hb (by simp)
  have ho := ho.ext hxd (by simp)
  have lb := lt_of_at hb
  have hb6 := hxd.at hb6 (by simp)
  have lb6 := lt_of_at hb6
  obtain ⟨F, hF⟩ : ∃ F, F = (P.take j ++ e :: P.drop j).map entE := ⟨_, rfl⟩
  have hF1 : ∀ r ∈ F, r.length = 13 := by rw [hF]; exact entE_one _
  have hF2 : ∀ r ∈ F, r.all (fun v => v.oneCell') = true := by rw [hF]; exact entE_cell _
  have hFl : F.length = P.length + 1 := by rw [hF]; simp; omega
  have ht1 : F.take j = (P.map entE).take j := by
    rw [hF, List.map_append, List.take_append_of_le_length (by simp; omega), List.map_take, List.take_take, Nat.min_self]
  have ht2 : (F.take (j + 1)).drop j = [entE e] := by
    rw [hF, List.map_append, List.map_cons, List.take_append, List.drop_append]
    simp [Nat.min_eq_left hj]
  have ht3 : (F.take (P.length + 1)).drop (j + 1) = (P.map entE).drop j := by
    rw [List.take_of_length_le (by omega), hF, List.map_append, List.map_cons, List.drop_append]
    simp [Nat.min_eq_left hj]
  have hrows := ho.rows
  have hblt := ho.blt
  have hsl : ∀ {w2 : World}, GrowW W.heap.size 46 13 F W w2 → RowsAt w2 (.slice a0 P.length c0) 13 (P.map entE) := fun hR => hR.rows hrows hblt
  refine relX.grow W.heap.size 46 13 F ?_
  refine postX.intro (fun v w' => OwnR w' W.heap.size 46 13 v (F.take 0) ∧ (0 = 0 → ∃ a, v = .slice a 0 0)) (fun v a b hR h => ⟨hR.own v 0 h.1, h.2⟩) (fun V w2 hR _ => ?_) ?_
  · simp (disch := first | assumption | omega | (simp only [szR, entC_len, entC_all, tvC_len, tvC_all] <;> omega) | rfl | decide) only [gen0, gen1, gen2, rulesM, rulesT, rulesQ, litR, bolR, Nat.reduceAdd, Nat.reduceLeDiff, numR, memR, valR, heapR, updR, intR, decR, extR, slR, segR, thenR, pnR, Int.reduceToNat, Int.reduceAdd, Int.reduceSub, Int.reduceLT, Int.reduceLE, Nat.reduceSub, Nat.reduceMul, Nat.reduceEqDiff]
    exact ⟨GrowW.of (Ext.alloc Ext.refl _ _), OwnR.fresh0 hR.size, fun _ => ⟨_, rfl⟩⟩
  refine postX.is (.pointer (some ⟨b4, 1, none⟩)) (fun V w2 hR _ => by simp (disch := first | assumption | omega | (simp only [szR, entC_len, entC_all, tvC_len, tvC_all] <;> omega) | rfl | decide) only [gen0, gen1, gen2, rulesM, rulesT, rulesQ, litR, bolR, Nat.reduceAdd, Nat.reduceLeDiff, numR, memR, valR, heapR, updR, intR, decR, extR, slR, segR, thenR, pnR, Int.reduceToNat, Int.reduceAdd, Int.reduceSub, Int.reduceLT, Int.reduceLE, Nat.reduceSub, Nat.reduceMul, Nat.reduceEqDiff]; exact okX.isG) ?_
  refine postX.is (.slice a0 P.length c0) (fun V w2 hR hd => by have e := hR.at hb lb; simp (disch := first | assumption | omega | (simp only [szR, entC_len, entC_all, tvC_len, tvC_all] <;> omega) | rfl | decide) only [gen0, gen1, gen2, rulesM, rulesT, rulesQ, litR, bolR, Nat.reduceAdd, Nat.reduceLeDiff, numR, memR, valR, heapR, updR, intR, decR, extR, slR, segR, thenR, pnR, Int.reduceToNat, Int.reduceAdd, Int.reduceSub, Int.reduceLT, Int.reduceLE, Nat.reduceSub, Nat.reduceMul, Nat.reduceEqDiff, hd, e, tvC_1]; exact okX.isG) ?_
  refine postX.is (.int .i64 (j : Nat)) (fun V w2 hR _ => okX.isG) ?_
  refine postX.intro (fun v w' => RowsAt w' v 13 ((F.take j).drop 0) ∧ ∀ b, blockOf v = some b → b < W.heap.size) (fun v a b hR h => ⟨hR.rows h.1 h.2, h.2⟩) (fun V w2 hR hd => ?_) ?_
  · simp (disch := first | assumption | omega | (simp only [szR, entC_len, entC_all, tvC_len, tvC_all] <;> omega) | rfl | decide) only [gen0, gen1, gen2, rulesM, rulesT, rulesQ, litR, bolR, Nat.reduceAdd, Nat.reduceLeDiff, numR, memR, valR, heapR, updR, intR, decR, extR, slR, segR, thenR, pnR, Int.reduceToNat, Int.reduceAdd, Int.reduceSub, Int.reduceLT, Int.reduceLE, Nat.reduceSub, Nat.reduceMul, Nat.reduceEqDiff, hd]
    refine kV_cut Try.underlying35 Try.sizeOf46 (hsl hR) 0 j (by omega) (by simp; omega) (.inl ⟨rfl, rfl⟩) (.inr ⟨.i64, (j : Nat), rfl, rfl⟩) fun v' hr hbv => ⟨GrowW.refl, by rw [ht1]; exact hr _ (hsl hR), fun b hb' => hblt b (by rw [← hbv]; exact hb')⟩
  refine postX.intro (fun v w' => OwnR w' W.heap.size 46 13 v (F.take j) ∧ (j = 0 → ∃ a, v = .slice a 0 0)) (fun v a b hR h => ⟨hR.own v j h.1, h.2⟩) (fun V w2 hR hd => ?_) ?_
  · obtain ⟨⟨h1, h2⟩, ⟨h3, h4⟩, -⟩ := hd
    rw [kV_eq]
    exact appG Try.underlying35 (by kernel_rfl) (by omega) (bytes := 24) hF1 hF2 h1 h2 (by omega) (by omega) h3 (by simp only [maxLen]; omega) (by omega) hR.size fun v' w' g1 g2 g3 => ⟨g3, g1, g2⟩
  refine postX.is (.agg (entE e).toArray) (fun V w2 hR _ => by have e5 := hR.at hb6 lb6; simp (disch := first | assumption | omega | (simp only [szR, entC_len, entC_all, tvC_len, tvC_all] <;> omega) | rfl | decide) only [gen0, gen1, gen2, rulesM, rulesT, rulesQ, litR, bolR, Nat.reduceAdd, Nat.reduceLeDiff, numR, memR, valR, heapR, updR, intR, decR, extR, slR, segR, thenR, pnR, Int.reduceToNat, Int.reduceAdd, Int.reduceSub, Int.reduceLT, Int.reduceLE, Nat.reduceSub, Nat.reduceMul, Nat.reduceEqDiff, e5, entE, entC_sub]; exact okX.isG) ?_
  refine postX.intro (fun v w' => ∃ g, v = .slice (some ⟨g, 0, none⟩) 1 1 ∧ W.heap.size ≤ g ∧ w'.heap[g]? = some (.cells (entE e).toArray 46 (0, 0))) (fun v a b hR ⟨g, h1, h2, h3⟩ => ⟨g, h1, h2, hR.one g _ h2 h3 (entC_len _ _)⟩) (fun V w2 hR hd => ?_) ?_
  · simp (disch := first | assumption | omega | (simp only [szR, entC_len, entC_all, tvC_len, tvC_all] <;> omega) | rfl | decide) only [gen0, gen1, gen2, rulesM, rulesT, rulesQ, litR, bolR, Nat.reduceAdd, Nat.reduceLeDiff, numR, memR, valR, heapR, updR, intR, decR, extR, slR, segR, thenR, pnR, Int.reduceToNat, Int.reduceAdd, Int.reduceSub, Int.reduceLT, Int.reduceLE, Nat.reduceSub, Nat.reduceMul, Nat.reduceEqDiff, hd, entE]
    exact ⟨GrowW.of (Ext.alloc Ext.refl _ _), _, rfl, hR.size, alloc_at rfl⟩
  refine postX.intro (fun v w' => OwnR w' W.heap.size 46 13 v (F.take (j + 1)) ∧ (j + 1 = 0 → ∃ a, v = .slice a 0 0)) (fun v a b hR h => ⟨hR.own v _ h.1, h.2⟩) (fun V w2 hR hd => ?_) ?_
  · obtain ⟨⟨h1, h2⟩, ⟨g, h3, h4, h5⟩, -⟩ := hd
    rw [kV_eq, h3]
    exact appG Try.underlying35 (by kernel_rfl) (by omega) (bytes := 24) hF1 hF2 h1 h2 (by omega) (by omega) (by rw [ht2]; exact RowsAt.one h5 (entC_len _ _)) (by simp only [maxLen]; omega) (by omega) hR.size fun v' w' g1 g2 g3 => ⟨g3, g1, g2⟩
  refine postX.is (.pointer (some ⟨b4, 1, none⟩)) (fun V w2 hR _ => by simp (disch := first | assumption | omega | (simp only [szR, entC_len, entC_all, tvC_len, tvC_all] <;> omega) | rfl | decide) only [gen0, gen1, gen2, rulesM, rulesT, rulesQ, litR, bolR, Nat.reduceAdd, Nat.reduceLeDiff, numR, memR, valR, heapR, updR, intR, decR, extR, slR, segR, thenR, pnR, Int.reduceToNat, Int.reduceAdd, Int.reduceSub, Int.reduceLT, Int.reduceLE, Nat.reduceSub, Nat.reduceMul, Nat.reduceEqDiff]; exact okX.isG) ?_
  refine postX.is (.slice a0 P.length c0) (fun V w2 hR hd => by have e := hR.at hb lb; simp (disch := first | assumption | omega | (simp only [szR, entC_len, entC_all, tvC_len, tvC_all] <;> omega) | rfl | decide) only [gen0, gen1, gen2, rulesM, rulesT, rulesQ, litR, bolR, Nat.reduceAdd, Nat.reduceLeDiff, numR, memR, valR, heapR, updR, intR, decR, extR, slR, segR, thenR, pnR, Int.reduceToNat, Int.reduceAdd, Int.reduceSub, Int.reduceLT, Int.reduceLE, Nat.reduceSub, Nat.reduceMul, Nat.reduceEqDiff, hd, e, tvC_1]; exact okX.isG) ?_
  refine postX.is (.int .i64 (j : Nat)) (fun V w2 hR _ => okX.isG) ?_
  refine postX.intro (fun v w' => RowsAt w' v 13 ((F.take (P.length + 1)).drop (j + 1)) ∧ ∀ b, blockOf v = some b → b < W.heap.size) (fun v a b hR h => ⟨hR.rows h.1 h.2, h.2⟩) (fun V w2 hR hd => ?_) ?_
  · simp (disch := first | assumption | omega | (simp only [szR, entC_len, entC_all, tvC_len, tvC_all] <;> omega) | rfl | decide) only [gen0, gen1, gen2, rulesM, rulesT, rulesQ, litR, bolR, Nat.reduceAdd, Nat.reduceLeDiff, numR, memR, valR, heapR, updR, intR, decR, extR, slR, segR, thenR, pnR, Int.reduceToNat, Int.reduceAdd, Int.reduceSub, Int.reduceLT, Int.reduceLE, Nat.reduceSub, Nat.reduceMul, Nat.reduceEqDiff, hd]
    refine kV_cut Try.underlying35 Try.sizeOf46 (hsl hR) j (P.map entE).length (by simp; omega) (Nat.le_refl _) (.inr ⟨.i64, (j : Nat), rfl, rfl⟩) (.inl ⟨rfl, rfl⟩) fun v' hr hbv => ⟨GrowW.refl, by have := hr _ (hsl hR); rw [List.take_length] at this; rw [ht3]; exact this, fun b hb' => hblt b (by rw [← hbv]; exact hb')⟩
  refine postX.intro (fun v w' => OwnR w' W.heap.size 46 13 v (F.take (P.length + 1)) ∧ (P.length + 1 = 0 → ∃ a, v = .slice a 0 0)) (fun v a b hR h => ⟨hR.own v _ h.1, h.2⟩) (fun V w2 hR hd => ?_) ?_
  · obtain ⟨⟨h1, h2⟩, ⟨h3, h4⟩, -⟩ := hd
    rw [kV_eq]
    exact appG Try.underlying35 (by kernel_rfl) (by omega) (bytes := 24) hF1 hF2 h1 h2 (by omega) (by omega) h3 (by simp only [maxLen]; omega) (by omega) hR.size fun v' w' g1 g2 g3 => ⟨g3, g1, g2⟩
  intro V w2 hR hd _
  obtain ⟨-, -, -, -, -, -, -, -, -, -, -, -, -, ⟨h1, -⟩, -⟩ := hd
  rw [List.take_of_length_le (i := P.length + 1) (l := F) (by omega)] at h1
  obtain ⟨a5, c5, hv5⟩ := h1.rows.len
  have hb2 := hR.at hb lb
  have lb2 := lt_of_at hb2
  rw [hv5] at h1
  simp (disch := first | assumption | omega | (simp only [szR, entC_len, entC_all, tvC_len, tvC_all] <;> omega) | rfl | decide) only [gen0, gen1, gen2, rulesM, rulesT, rulesQ, litR, bolR, Nat.reduceAdd, Nat.reduceLeDiff, numR, memR, valR, heapR, updR, intR, decR, extR, slR, segR, thenR, pnR, Int.reduceToNat, Int.reduceAdd, Int.reduceSub, Int.reduceLT, Int.reduceLE, Nat.reduceSub, Nat.reduceMul, Nat.reduceEqDiff, hb2, hv5, tv_set1]
  have hxu : Ext [b4] w2 (World.upd w2 b4 (tvC (.slice a1 n1 c1) (.slice a5 F.length c5) (.slice a2 n2 c2) (.slice a3 n3 c3))) := Ext.updI (by simp) Ext.refl
  refine hJ _ _ ?_ (upd_at hb2) (((hxd.trans hR.ext (by simp)).mono (by simp)).trans hxu (by simp))
  rw [← hF]
  exact (h1.low (Nat.zero_le _)).ext hxu (fun b hb hm => own_ne' h1 hb2 (by decide) (by rw [List.mem_singleton.1 hm] at hb; exact hb))
end Go.Proofs.Ytfpcflmgipklcaa
