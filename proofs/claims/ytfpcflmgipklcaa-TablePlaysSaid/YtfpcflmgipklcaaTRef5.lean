/- The document's tables: an entry laid; conditions: those of each theorem. -/
import Derived.Test.YtfpcflmgipklcaaTRef4
namespace Go.Proofs.Ytfpcflmgipklcaa
open Go.Fx
set_option maxRecDepth 100000
set_option linter.unusedSimpArgs false
set_option linter.unusedVariables false
set_option maxHeartbeats 2000000
theorem mid_region {w : World} {b4 va c2 : Nat} {a2 : Option Addr} {u0 u1 u3 : Value} {M : List Nat} (hb : w.heap[b4]? = some (.cells (tvC u0 u1 (.slice a2 M.length c2) u3).toArray 37 (0, 0))) (ho : OwnR w 0 23 1 (.slice a2 M.length c2) (M.map uC)) (hn : M.length < 100000) (hva : va < 18446744073709551616)
    (hu : ∃ a0 a1 a3 n0 n1 n3 c0 c1 c3, u0 = .slice a0 n0 c0 ∧ u1 = .slice a1 n1 c1 ∧ u3 = .slice a3 n3 c3) {v4 t1 : Value} (e4 : v4 = .pointer (some ⟨b4, 0, none⟩)) (e1 : t1 = .int .u64 (va : Nat)) {J8 : List Value → World → Prop}
    (hJ : ∀ u2' w', OwnR w' 0 23 1 u2' ((if va / 1073741824 ∈ M then M else M ++ [va / 1073741824]).map uC) → w'.heap[b4]? = some (.cells (tvC u0 u1 u2' u3).toArray 37 (0, 0)) → Ext [b4] w w' → J8 [] w') : (kV Try.prog (Instr.fieldAt 37 v4 2) w fun v51 w =>
  kV Try.prog (Instr.loadAt 34 v51) w fun v52 w =>
  kV Try.prog (binV .quo 23 (.tmp 53) (.const (.int .u64 1073741824)) t1 (.int .u64 1073741824)) w fun v54 w =>
  kN Try.prog (callN (.func (.func 39) #[] #[]) #[v52, v54]) w fun v55 w =>
  kV Try.prog (Op.unary .not v55) w fun v56 w =>
  condK v56
  (kV Try.prog (Instr.buildSlice 34 0 #[]) w fun v57 w =>
  kV Try.prog (Instr.fieldAt 37 v4 2) w fun v58 w =>
  kV Try.prog (Instr.loadAt 34 v58) w fun v59 w =>
  kV Try.prog (Builtin.append_ #[34, 34] 34 #[v57, v59]) w fun v60 w =>
  kV Try.prog (binV .quo 23 (.tmp 61) (.const (.int .u64 1073741824)) t1 (.int .u64 1073741824)) w fun v62 w =>
  kV Try.prog (Instr.buildSlice 34 1 #[(0, v62)]) w fun v63 w =>
  kV Try.prog (Builtin.append_ #[34, 34] 34 #[v60, v63]) w fun v64 w =>
  kV Try.prog (Instr.fieldAt 37 v4 2) w fun v65 w =>
  kU Try.prog (Instr.storeAt 34 v65 v64) w fun _ w =>
  J8 [] w)
  (J8 [] w)) := by
  subst e4 e1
  obtain ⟨a0, a1, a3, n0, n1, n3, c0, c1, c3, rfl, rfl, rfl⟩ := hu
  have e2 : ((va : Nat) : Int) / 1073741824 = ((va / 1073741824 : Nat) : Int) := by omega
  have hk : va / 1073741824 < 18446744073709551616 := by omega
  generalize va / 1073741824 = k at *
  have lb := lt_of_at hb
  simp (disch := first | assumption | omega | (simp only [szR, entC_len, entC_all, tvC_len, tvC_all] <;> omega) | rfl | decide) only [gen0, gen1, gen2, rulesM, rulesT, rulesQ, litR, bolR, Nat.reduceAdd, Nat.reduceLeDiff, numR, memR, valR, heapR, updR, intR, decR, extR, slR, segR, thenR, pnR, Int.reduceToNat, Int.reduceAdd, Int.reduceSub, Int.reduceLT, Int.reduceLE, Nat.reduceSub, Nat.reduceMul, Nat.reduceEqDiff, hb, tvC_2, e2]
  refine has_spec ho.rows (by omega) ?_
  by_cases hm : k ∈ M
  · rw [if_pos hm] at hJ
    rw [decide_eq_true hm]
    simp (disch := first | assumption | omega | (simp only [szR, entC_len, entC_all, tvC_len, tvC_all] <;> omega) | rfl | decide) only [gen0, gen1, gen2, rulesM, rulesT, rulesQ, litR, bolR, Nat.reduceAdd, Nat.reduceLeDiff, numR, memR, valR, heapR, updR, intR, decR, extR, slR, segR, thenR, pnR, Int.reduceToNat, Int.reduceAdd, Int.reduceSub, Int.reduceLT, Int.reduceLE, Nat.reduceSub, Nat.reduceMul, Nat.reduceEqDiff, Bool.not_true]
    exact hJ _ w ho hb Ext.refl
  · rw [if_neg hm] at hJ
    rw [decide_eq_false hm]
    simp (disch := first | assumption | omega | (simp only [szR, entC_len, entC_all, tvC_len, tvC_all] <;> omega) | rfl | decide) only [gen0, gen1, gen2, rulesM, rulesT, rulesQ, litR, bolR, Nat.reduceAdd, Nat.reduceLeDiff, numR, memR, valR, heapR, updR, intR, decR, extR, slR, segR, thenR, pnR, Int.reduceToNat, Int.reduceAdd, Int.reduceSub, Int.reduceLT, Int.reduceLE, Nat.reduceSub, Nat.reduceMul, Nat.reduceEqDiff, hb, tvC_2, Bool.not_false]
    have hx1 : Ext [] w (w.alloc (.cells [].toArray 23)) := Ext.alloc Ext.refl _ _
    refine appU (rows := []) (base := w.heap.size) (OwnR.fresh0 (Nat.le_refl _)) (ho.rows.ext hx1 (by simp)) (uC_cell M) (by simp; omega) hx1.size fun v2 w2 ho2 hp2 => ?_
    rw [List.nil_append] at ho2
    have hX2 : Ext [] w w2 := hp2.ext w [] (Nat.le_refl _) hx1
    simp (disch := first | assumption | omega | (simp only [szR, entC_len, entC_all, tvC_len, tvC_all] <;> omega) | rfl | decide) only [gen0, gen1, gen2, rulesM, rulesT, rulesQ, litR, bolR, Nat.reduceAdd, Nat.reduceLeDiff, numR, memR, valR, heapR, updR, intR, decR, extR, slR, segR, thenR, pnR, Int.reduceToNat, Int.reduceAdd, Int.reduceSub, Int.reduceLT, Int.reduceLE, Nat.reduceSub, Nat.reduceMul, Nat.reduceEqDiff, e2]
    have hx3 : Ext [] w2 (w2.alloc (.cells (uC k).toArray 23)) := Ext.alloc Ext.refl _ _
    refine appU (rows2 := [uC k]) (base := w.heap.size) (ho2.ext hx3 (by simp)) (RowsAt.one (l := uC k) (alloc_at rfl) rfl) (by simp [uC]; rfl) (by simp; omega) (Nat.le_trans hX2.size hx3.size) fun v4 w4 ho4 hp4 => ?_
    have hX4 : Ext [] w w4 := hp4.ext w [] (Nat.le_refl _) (hX2.trans hx3 (by simp))
    have hb4 := hX4.at hb (by simp)
    have lb4 := lt_of_at hb4
    obtain ⟨a5, c5, hv5⟩ := ho4.rows.len
    subst hv5
    simp (disch := first | assumption | omega | (simp only [szR, entC_len, entC_all, tvC_len, tvC_all] <;> omega) | rfl | decide) only [gen0, gen1, gen2, rulesM, rulesT, rulesQ, litR, bolR, Nat.reduceAdd, Nat.reduceLeDiff, numR, memR, valR, heapR, updR, intR, decR, extR, slR, segR, thenR, pnR, Int.reduceToNat, Int.reduceAdd, Int.reduceSub, Int.reduceLT, Int.reduceLE, Nat.reduceSub, Nat.reduceMul, Nat.reduceEqDiff, hb4, tv_set2]
    have hxu : Ext [b4] w4 (World.upd w4 b4 (tvC (.slice a0 n0 c0) (.slice a1 n1 c1) (.slice a5 (M.map uC ++ [uC k]).length c5) (.slice a3 n3 c3))) := Ext.updI (by simp) Ext.refl
    refine hJ _ _ ?_ (upd_at hb4) ((hX4.mono (by simp)).trans hxu (by simp))
    rw [List.map_append]
    exact (ho4.low (Nat.zero_le _)).ext hxu (fun b hb hm => own_ne' ho4 hb4 (by decide) (by rw [List.mem_singleton.1 hm] at hb; exact hb))
theorem low_region {w : World} {b4 va c2 : Nat} {a2 : Option Addr} {u0 u1 u3 : Value} {M : List Nat} (hb : w.heap[b4]? = some (.cells (tvC u0 u1 u3 (.slice a2 M.length c2)).toArray 37 (0, 0))) (ho : OwnR w 0 23 1 (.slice a2 M.length c2) (M.map uC)) (hn : M.length < 100000) (hva : va < 18446744073709551616)
    (hu : ∃ a0 a1 a3 n0 n1 n3 c0 c1 c3, u0 = .slice a0 n0 c0 ∧ u1 = .slice a1 n1 c1 ∧ u3 = .slice a3 n3 c3) {v4 t1 : Value} (e4 : v4 = .pointer (some ⟨b4, 0, none⟩)) (e1 : t1 = .int .u64 (va : Nat)) {J10 : List Value → World → Prop}
    (hJ : ∀ u2' w', OwnR w' 0 23 1 u2' ((if va / 2097152 ∈ M then M else M ++ [va / 2097152]).map uC) → w'.heap[b4]? = some (.cells (tvC u0 u1 u3 u2').toArray 37 (0, 0)) → Ext [b4] w w' → J10 [] w') : (kV Try.prog (Instr.fieldAt 37 v4 3) w fun v66 w =>
  kV Try.prog (Instr.loadAt 34 v66) w fun v67 w =>
  kV Try.prog (binV .quo 23 (.tmp 68) (.const (.int .u64 2097152)) t1 (.int .u64 2097152)) w fun v69 w =>
  kN Try.prog (callN (.func (.func 39) #[] #[]) #[v67, v69]) w fun v70 w =>
  kV Try.prog (Op.unary .not v70) w fun v71 w =>
  condK v71
  (kV Try.prog (Instr.buildSlice 34 0 #[]) w fun v72 w =>
  kV Try.prog (Instr.fieldAt 37 v4 3) w fun v73 w =>
  kV Try.prog (Instr.loadAt 34 v73) w fun v74 w =>
  kV Try.prog (Builtin.append_ #[34, 34] 34 #[v72, v74]) w fun v75 w =>
  kV Try.prog (binV .quo 23 (.tmp 76) (.const (.int .u64 2097152)) t1 (.int .u64 2097152)) w fun v77 w =>
  kV Try.prog (Instr.buildSlice 34 1 #[(0, v77)]) w fun v78 w =>
  kV Try.prog (Builtin.append_ #[34, 34] 34 #[v75, v78]) w fun v79 w =>
  kV Try.prog (Instr.fieldAt 37 v4 3) w fun v80 w =>
  kU Try.prog (Instr.storeAt 34 v80 v79) w fun _ w =>
  J10 [] w)
  (J10 [] w)) := by
  subst e4 e1
  obtain ⟨a0, a1, a3, n0, n1, n3, c0, c1, c3, rfl, rfl, rfl⟩ := hu
  have e2 : ((va : Nat) : Int) / 2097152 = ((va / 2097152 : Nat) : Int) := by omega
  have hk : va / 2097152 < 18446744073709551616 := by omega
  generalize va / 2097152 = k at *
  have lb := lt_of_at hb
  simp (disch := first | assumption | omega | (simp only [szR, entC_len, entC_all, tvC_len, tvC_all] <;> omega) | rfl | decide) only [gen0, gen1, gen2, rulesM, rulesT, rulesQ, litR, bolR, Nat.reduceAdd, Nat.reduceLeDiff, numR, memR, valR, heapR, updR, intR, decR, extR, slR, segR, thenR, pnR, Int.reduceToNat, Int.reduceAdd, Int.reduceSub, Int.reduceLT, Int.reduceLE, Nat.reduceSub, Nat.reduceMul, Nat.reduceEqDiff, hb, tvC_3, e2]
  refine has_spec ho.rows (by omega) ?_
  by_cases hm : k ∈ M
  · rw [if_pos hm] at hJ
    rw [decide_eq_true hm]
    simp (disch := first | assumption | omega | (simp only [szR, entC_len, entC_all, tvC_len, tvC_all] <;> omega) | rfl | decide) only [gen0, gen1, gen2, rulesM, rulesT, rulesQ, litR, bolR, Nat.reduceAdd, Nat.reduceLeDiff, numR, memR, valR, heapR, updR, intR, decR, extR, slR, segR, thenR, pnR, Int.reduceToNat, Int.reduceAdd, Int.reduceSub, Int.reduceLT, Int.reduceLE, Nat.reduceSub, Nat.reduceMul, Nat.reduceEqDiff, Bool.not_true]
    exact hJ _ w ho hb Ext.refl
  · rw [if_neg hm] at hJ
    rw [decide_eq_false hm]
    simp (disch := first | assumption | omega | (simp only [szR, entC_len, entC_all, tvC_len, tvC_all] <;> omega) | rfl | decide) only [gen0, gen1, gen2, rulesM, rulesT, rulesQ, litR, bolR, Nat.reduceAdd, Nat.reduceLeDiff, numR, memR, valR, heapR, updR, intR, decR, extR, slR, segR, thenR, pnR, Int.reduceToNat, Int.reduceAdd, Int.reduceSub, Int.reduceLT, Int.reduceLE, Nat.reduceSub, Nat.reduceMul, Nat.reduceEqDiff, hb, tvC_3, Bool.not_false]
    have hx1 : Ext [] w (w.alloc (.cells [].toArray 23)) := Ext.alloc Ext.refl _ _
    refine appU (rows := []) (base := w.heap.size) (OwnR.fresh0 (Nat.le_refl _)) (ho.rows.ext hx1 (by simp)) (uC_cell M) (by simp; omega) hx1.size fun v2 w2 ho2 hp2 => ?_
    rw [List.nil_append] at ho2
    have hX2 : Ext [] w w2 := hp2.ext w [] (Nat.le_refl _) hx1
    simp (disch := first | assumption | omega | (simp only [szR, entC_len, entC_all, tvC_len, tvC_all] <;> omega) | rfl | decide) only [gen0, gen1, gen2, rulesM, rulesT, rulesQ, litR, bolR, Nat.reduceAdd, Nat.reduceLeDiff, numR, memR, valR, heapR, updR, intR, decR, extR, slR, segR, thenR, pnR, Int.reduceToNat, Int.reduceAdd, Int.reduceSub, Int.reduceLT, Int.reduceLE, Nat.reduceSub, Nat.reduceMul, Nat.reduceEqDiff, e2]
    have hx3 : Ext [] w2 (w2.alloc (.cells (uC k).toArray 23)) := Ext.alloc Ext.refl _ _
    refine appU (rows2 := [uC k]) (base := w.heap.size) (ho2.ext hx3 (by simp)) (RowsAt.one (l := uC k) (alloc_at rfl) rfl) (by simp [uC]; rfl) (by simp; omega) (Nat.le_trans hX2.size hx3.size) fun v4 w4 ho4 hp4 => ?_
    have hX4 : Ext [] w w4 := hp4.ext w [] (Nat.le_refl _) (hX2.trans hx3 (by simp))
    have hb4 := hX4.at hb (by simp)
    have lb4 := lt_of_at hb4
    obtain ⟨a5, c5, hv5⟩ := ho4.rows.len
    subst hv5
    simp (disch := first | assumption | omega | (simp only [szR, entC_len, entC_all, tvC_len, tvC_all] <;> omega) | rfl | decide) only [gen0, gen1, gen2, rulesM, rulesT, rulesQ, litR, bolR, Nat.reduceAdd, Nat.reduceLeDiff, numR, memR, valR, heapR, updR, intR, decR, extR, slR, segR, thenR, pnR, Int.reduceToNat, Int.reduceAdd, Int.reduceSub, Int.reduceLT, Int.reduceLE, Nat.reduceSub, Nat.reduceMul, Nat.reduceEqDiff, hb4, tv_set3]
    have hxu : Ext [b4] w4 (World.upd w4 b4 (tvC (.slice a0 n0 c0) (.slice a1 n1 c1) (.slice a3 n3 c3) (.slice a5 (M.map uC ++ [uC k]).length c5))) := Ext.updI (by simp) Ext.refl
    refine hJ _ _ ?_ (upd_at hb4) ((hX4.mono (by simp)).trans hxu (by simp))
    rw [List.map_append]
    exact (ho4.low (Nat.zero_le _)).ext hxu (fun b hb hm => own_ne' ho4 hb4 (by decide) (by rw [List.mem_singleton.1 hm] at hb; exact hb))
theorem own_box {w w' : World} {b base n : Nat} {E0 E : TypeId} {v : Value} {rows : List (List Value)} {l : Array Value} (h : OwnR w base E0 n v rows) (hb : w.heap[b]? = some (.cells l E (0, 0))) (hE : E ≠ E0) (hx : Ext [b] w w') : OwnR w' base E0 n v rows :=
  h.ext hx fun c hc hm => own_ne' h hb hE (by rw [List.mem_singleton.1 hm] at hc; exact hc)
theorem take_while {P : List (Nat × EntE)} {k j : Nat} (hj : j ≤ P.length) (h1 : ∀ p ∈ P.take j, p.1 < k) (h2 : ∀ p, P[j]? = some p → ¬ p.1 < k) : P.takeWhile (fun p => decide (p.1 < k)) = P.take j ∧ P.dropWhile (fun p => decide (p.1 < k)) = P.drop j := by
  have e : P = P.take j ++ P.drop j := (List.take_append_drop j P).symm
  have hd : (P.drop j).takeWhile (fun p => decide (p.1 < k)) = [] ∧ (P.drop j).dropWhile (fun p => decide (p.1 < k)) = P.drop j := by
    by_cases hl : j < P.length
    · have h3 := h2 P[j] (List.getElem?_eq_getElem hl)
      rw [List.drop_eq_getElem_cons hl]
      exact ⟨List.takeWhile_cons_of_neg (by simpa using h3), List.dropWhile_cons_of_neg (by simpa using h3)⟩
    · rw [List.drop_of_length_le (by omega)]
      exact ⟨rfl, rfl⟩
  have h4 : ∀ p ∈ P.take j, decide (p.1 < k) = true := fun p hp => decide_eq_true (h1 p hp)
  constructor
  · conv => lhs; rw [e]
    rw [List.takeWhile_append_of_pos h4, hd.1, List.append_nil]
  · conv => lhs; rw [e]
    rw [List.dropWhile_append_of_pos h4, hd.2]
def needR (R : RT) (va : Nat) : Nat := (if va / 1073741824 ∈ R.mid then 0 else 1) + (if va / 2097152 ∈ R.low then 0 else 1)
def insR (P : List (Nat × EntE)) (k : Nat) (e : EntE) : List (Nat × EntE) := P.takeWhile (fun p => decide (p.1 < k)) ++ (k, e) :: P.dropWhile (fun p => decide (p.1 < k))
def setR (R : RT) (va : Nat) (e : EntE) : RT := ⟨insR (clr R (va / 4096)).ps (va / 4096) e, if va / 1073741824 ∈ R.mid then R.mid else R.mid ++ [va / 1073741824], if va / 2097152 ∈ R.low then R.low else R.low ++ [va / 2097152]⟩
theorem rset_spec {w : World} {v0 v1 v2 v3 : Value} {R : RT} (h : RefT w v0 v1 v2 v3 R) (hn : R.ps.length < 50000 ∧ R.mid.length < 50000 ∧ R.low.length < 50000) {va : Nat} (hva : va < 18446744073709551616) {f : Nat → Bool} {x : Nat} (hx : x < 18446744073709551616) {free : Int} {K : Value → World → Prop}
    (hbad : (¬ va < 274877906944 ∨ (leaf f && right f x) = false) → ∀ w', Ext [] w w' → K (.tuple #[.agg (tvC v0 v1 v2 v3).toArray, .int .i64 2]) w')
    (hroom : va < 274877906944 → (leaf f && right f x) = true → free < needR R va → ∀ w', Ext [] w w' → K (.tuple #[.agg (tvC v0 v1 v2 v3).toArray, .int .i64 15]) w')
    (hK : va < 274877906944 → (leaf f && right f x) = true → needR R va ≤ free → ∀ u0 u1 u2 u3 w', RefT w' u0 u1 u2 u3 (setR R va ⟨f, x⟩) → Ext [] w w' → K (.tuple #[.agg (tvC u0 u1 u2 u3).toArray, .int .i64 0]) w') :
    callsK Try.prog 10 #[.agg (tvC v0 v1 v2 v3).toArray, .int .u64 (va : Nat), .agg (entC f x).toArray, .int .i64 free] w K := by
  obtain ⟨a0, a1, a2, a3, c0, c1, c2, c3, rfl, rfl, rfl, rfl⟩ := h.slices
  have hz : ([.slice none 0 0, .slice none 0 0, .slice none 0 0, .slice none 0 0] : List Value) = tvC (.slice none 0 0) (.slice none 0 0) (.slice none 0 0) (.slice none 0 0) := rfl
  apply F10_ok
  unfold F10
  obtain ⟨W, hW⟩ : ∃ W, W = ((w.alloc (.cells (tvC (.slice a0 R.ps.length c0) (.slice a1 R.ps.length c1) (.slice a2 R.mid.length c2) (.slice a3 R.low.length c3)).toArray 37)).alloc (.cells (entC f x).toArray 46)).alloc (.cells (tvC (.slice none 0 0) (.slice none 0 0) (.slice none 0 0) (.slice none 0 0)).toArray 37) := ⟨_, rfl⟩
  have hxW : Ext [] w W := by rw [hW]; (repeat first | assumption | exact Ext.refl | apply Ext.alloc | apply Ext.drew | (refine Ext.updN ?_ ?_; (focus first | omega | (simp only [szR] <;> omega))) | (refine Ext.updI ?_ ?_; (focus (simp; done))))
  have hB : W.heap[w.heap.size]? = some (.cells (tvC (.slice a0 R.ps.length c0) (.slice a1 R.ps.length c1) (.slice a2 R.mid.length c2) (.slice a3 R.low.length c3)).toArray 37 (0, 0)) := by rw [hW]; simp (disch := first | assumption | omega | (simp only [szR, entC_len, entC_all, tvC_len, tvC_all] <;> omega) | rfl | decide) only [gen0, gen1, gen2, rulesM, rulesT, rulesQ, litR, bolR, Nat.reduceAdd, Nat.reduceLeDiff, numR, memR, valR, heapR, updR, intR, decR, extR, slR, segR, thenR, pnR, Int.reduceToNat, Int.reduceAdd, Int.reduceSub, Int.reduceLT, Int.reduceLE, Nat.reduceSub, Nat.reduceMul, Nat.reduceEqDiff]
  have hC : W.heap[w.heap.size + 1]? = some (.cells (entC f x).toArray 46 (0, 0)) := by rw [hW]; simp (disch := first | assumption | omega | (simp only [szR, entC_len, entC_all, tvC_len, tvC_all] <;> omega) | rfl | decide) only [gen0, gen1, gen2, rulesM, rulesT, rulesQ, litR, bolR, Nat.reduceAdd, Nat.reduceLeDiff, numR, memR, valR, heapR, updR, intR, decR, extR, slR, segR, thenR, pnR, Int.reduceToNat, Int.reduceAdd, Int.reduceSub, Int.reduceLT, Int.reduceLE, Nat.reduceSub, Nat.reduceMul, Nat.reduceEqDiff]
  have hD : W.heap[w.heap.size + 1 + 1]? = some (.cells (tvC (.slice none 0 0) (.slice none 0 0) (.slice none 0 0) (.slice none 0 0)).toArray 37 (0, 0)) := by rw [hW]; simp (disch := first | assumption | omega | (simp only [szR, entC_len, entC_all, tvC_len, tvC_all] <;> omega) | rfl | decide) only [gen0, gen1, gen2, rulesM, rulesT, rulesQ, litR, bolR, Nat.reduceAdd, Nat.reduceLeDiff, numR, memR, valR, heapR, updR, intR, decR, extR, slR, segR, thenR, pnR, Int.reduceToNat, Int.reduceAdd, Int.reduceSub, Int.reduceLT, Int.reduceLE, Nat.reduceSub, Nat.reduceMul, Nat.reduceEqDiff]
  have hRW := h.ext hxW (by simp)
  have lD := lt_of_at hD
  have lC := lt_of_at hC
  have lB := lt_of_at hB
  have hput : ∀ {w' : World}, Ext [] W w' → ∀ L, Ext [] w (World.upd w' (w.heap.size + 1 + 1) L) := fun hx L => (hxW.trans hx (by simp)).trans (Ext.updI (S := [w.heap.size + 1 + 1]) (by simp) Ext.refl) (fun b hb => .inr (by rw [List.mem_singleton.1 hb]; omega))
  by_cases hlt : va < 274877906944
  case neg =>
    have e1 : decide ((274877906944 : Int) ≤ ((va : Nat) : Int)) = true := decide_eq_true (by omega)
    simp (disch := first | assumption | omega | (simp only [szR, entC_len, entC_all, tvC_len, tvC_all] <;> omega) | rfl | decide) only [gen0, gen1, gen2, rulesM, rulesT, rulesQ, litR, bolR, Nat.reduceAdd, Nat.reduceLeDiff, numR, memR, valR, heapR, updR, intR, decR, extR, slR, segR, thenR, pnR, Int.reduceToNat, Int.reduceAdd, Int.reduceSub, Int.reduceLT, Int.reduceLE, Nat.reduceSub, Nat.reduceMul, Nat.reduceEqDiff, joinBR, e1, hz]
    rw [← hW]
    simp (disch := first | assumption | omega | (simp only [szR, entC_len, entC_all, tvC_len, tvC_all] <;> omega) | rfl | decide) only [gen0, gen1, gen2, rulesM, rulesT, rulesQ, litR, bolR, Nat.reduceAdd, Nat.reduceLeDiff, numR, memR, valR, heapR, updR, intR, decR, extR, slR, segR, thenR, pnR, Int.reduceToNat, Int.reduceAdd, Int.reduceSub, Int.reduceLT, Int.reduceLE, Nat.reduceSub, Nat.reduceMul, Nat.reduceEqDiff, joinBR, hB, hD, tvC_sub, tv_drop]
    exact hbad (.inl hlt) _ (hput Ext.refl _)
  have e1 : decide ((274877906944 : Int) ≤ ((va : Nat) : Int)) = false := decide_eq_false (by omega)
  simp (disch := first | assumption | omega | (simp only [szR, entC_len, entC_all, tvC_len, tvC_all] <;> omega) | rfl | decide) only [gen0, gen1, gen2, rulesM, rulesT, rulesQ, litR, bolR, Nat.reduceAdd, Nat.reduceLeDiff, numR, memR, valR, heapR, updR, intR, decR, extR, slR, segR, thenR, pnR, Int.reduceToNat, Int.reduceAdd, Int.reduceSub, Int.reduceLT, Int.reduceLE, Nat.reduceSub, Nat.reduceMul, Nat.reduceEqDiff, joinBR, e1, hz]
  rw [← hW, entC_sub]
  clear hW
  refine RLeaf_spec fun w1 hx1 => ?_
  have hB1 := hx1.at hB (by simp)
  have hC1 := hx1.at hC (by simp)
  have hD1 := hx1.at hD (by simp)
  generalize hlf : leaf f = lf at *
  cases lf
  · simp (disch := first | assumption | omega | (simp only [szR, entC_len, entC_all, tvC_len, tvC_all] <;> omega) | rfl | decide) only [gen0, gen1, gen2, rulesM, rulesT, rulesQ, litR, bolR, Nat.reduceAdd, Nat.reduceLeDiff, numR, memR, valR, heapR, updR, intR, decR, extR, slR, segR, thenR, pnR, Int.reduceToNat, Int.reduceAdd, Int.reduceSub, Int.reduceLT, Int.reduceLE, Nat.reduceSub, Nat.reduceMul, Nat.reduceEqDiff, joinBR, hB1, hD1, tvC_sub, tv_drop, Bool.not_false]
    exact hbad (.inr rfl) _ (hput hx1 _)
  simp (disch := first | assumption | omega | (simp only [szR, entC_len, entC_all, tvC_len, tvC_all] <;> omega) | rfl | decide) only [gen0, gen1, gen2, rulesM, rulesT, rulesQ, litR, bolR, Nat.reduceAdd, Nat.reduceLeDiff, numR, memR, valR, heapR, updR, intR, decR, extR, slR, segR, thenR, pnR, Int.reduceToNat, Int.reduceAdd, Int.reduceSub, Int.reduceLT, Int.reduceLE, Nat.reduceSub, Nat.reduceMul, Nat.reduceEqDiff, joinBR, hC1, entC_sub, Bool.not_true]
  refine RRight_spec hx fun w2 hx2 => ?_
  have hy2 := hx1.trans hx2 (by simp)
  have hB2 := hx2.at hB1 (by simp)
  have hC2 := hx2.at hC1 (by simp)
  have hD2 := hx2.at hD1 (by simp)
  generalize hrt : right f x = rt at *
  cases rt
  · simp (disch := first | assumption | omega | (simp only [szR, entC_len, entC_all, tvC_len, tvC_all] <;> omega) | rfl | decide) only [gen0, gen1, gen2, rulesM, rulesT, rulesQ, litR, bolR, Nat.reduceAdd, Nat.reduceLeDiff, numR, memR, valR, heapR, updR, intR, decR, extR, slR, segR, thenR, pnR, Int.reduceToNat, Int.reduceAdd, Int.reduceSub, Int.reduceLT, Int.reduceLE, Nat.reduceSub, Nat.reduceMul, Nat.reduceEqDiff, joinBR, hB2, hD2, tvC_sub, tv_drop, Bool.not_false]
    exact hbad (.inr rfl) _ (hput hy2 _)
  simp (disch := first | assumption | omega | (simp only [szR, entC_len, entC_all, tvC_len, tvC_all] <;> omega) | rfl | decide) only [gen0, gen1, gen2, rulesM, rulesT, rulesQ, litR, bolR, Nat.reduceAdd, Nat.reduceLeDiff, numR, memR, valR, heapR, updR, intR, decR, extR, slR, segR, thenR, pnR, Int.reduceToNat, Int.reduceAdd, Int.reduceSub, Int.reduceLT, Int.reduceLE, Nat.reduceSub, Nat.reduceMul, Nat.reduceEqDiff, joinBR, Bool.not_true]
  have hR2 := hRW.ext hy2 (by simp)
  have e30 : ((va : Nat) : Int) / 1073741824 = ((va / 1073741824 : Nat) : Int) := by omega
  have e21 : ((va : Nat) : Int) / 2097152 = ((va / 2097152 : Nat) : Int) := by omega
  have e12 : ((va : Nat) : Int) / 4096 = ((va / 4096 : Nat) : Int) := by omega
  refine joinL.intro fun J3 hJ3 => ?_
  have hgo3 : ∀ a : Nat, a = (if va / 1073741824 ∈ R.mid then 0 else 1) → J3 [.int .i64 (a : Nat)] w2 := by
    intro a ha
    apply hJ3
    intro _
    clear hJ3
    refine joinL.intro fun J5 hJ5 => ?_
    have hgo5 : ∀ b : Nat, b = needR R va → J5 [.int .i64 (b : Nat)] w2 := by
      intro b hb
      apply hJ5
      intro _
      clear hJ5
      by_cases hfr : free < (b : Int)
      · have e5 : decide (free < ((b : Nat) : Int)) = true := decide_eq_true hfr
        simp (disch := first | assumption | omega | (simp only [szR, entC_len, entC_all, tvC_len, tvC_all] <;> omega) | rfl | decide) only [gen0, gen1, gen2, rulesM, rulesT, rulesQ, litR, bolR, Nat.reduceAdd, Nat.reduceLeDiff, numR, memR, valR, heapR, updR, intR, decR, extR, slR, segR, thenR, pnR, Int.reduceToNat, Int.reduceAdd, Int.reduceSub, Int.reduceLT, Int.reduceLE, Nat.reduceSub, Nat.reduceMul, Nat.reduceEqDiff, e5, hB2, hD2, tvC_sub, tv_drop]
        exact hroom hlt rfl (by rw [← hb]; exact hfr) _ (hput hy2 _)
      have e5 : decide (free < ((b : Nat) : Int)) = false := decide_eq_false hfr
      have hK := hK hlt rfl (by rw [← hb]; omega)
      simp (disch := first | assumption | omega | (simp only [szR, entC_len, entC_all, tvC_len, tvC_all] <;> omega) | rfl | decide) only [gen0, gen1, gen2, rulesM, rulesT, rulesQ, litR, bolR, Nat.reduceAdd, Nat.reduceLeDiff, numR, memR, valR, heapR, updR, intR, decR, extR, slR, segR, thenR, pnR, Int.reduceToNat, Int.reduceAdd, Int.reduceSub, Int.reduceLT, Int.reduceLE, Nat.reduceSub, Nat.reduceMul, Nat.reduceEqDiff, e5, hB2, tvC_sub]
      refine rclear_spec hR2 (by omega) hva (fun hno => absurd hlt hno) fun _ u0 u1 w3 hR3 hx3 => ?_
      have hy3 := hy2.trans hx3 (by simp)
      have hB3 := hx3.at hB2 (by simp)
      have hC3 := hx3.at hC2 (by simp)
      have hD3 := hx3.at hD2 (by simp)
      obtain ⟨b0, b1, b2, b3, d0, d1, d2, d3, rfl, rfl, -, -⟩ := hR3.slices
      have lB3 := lt_of_at hB3
      simp (disch := first | assumption | omega | (simp only [szR, entC_len, entC_all, tvC_len, tvC_all] <;> omega) | rfl | decide) only [gen0, gen1, gen2, rulesM, rulesT, rulesQ, litR, bolR, Nat.reduceAdd, Nat.reduceLeDiff, numR, memR, valR, heapR, updR, intR, decR, extR, slR, segR, thenR, pnR, Int.reduceToNat, Int.reduceAdd, Int.reduceSub, Int.reduceLT, Int.reduceLE, Nat.reduceSub, Nat.reduceMul, Nat.reduceEqDiff, hB3, tv_drop]
      obtain ⟨w4, hw4⟩ : ∃ w4, w4 = World.upd w3 w.heap.size (tvC (.slice b0 (clr R (va / 4096)).ps.length d0) (.slice b1 (clr R (va / 4096)).ps.length d1) (.slice a2 R.mid.length c2) (.slice a3 R.low.length c3)) := ⟨_, rfl⟩
      have hB4 := upd_at (l := tvC (.slice b0 (clr R (va / 4096)).ps.length d0) (.slice b1 (clr R (va / 4096)).ps.length d1) (.slice a2 R.mid.length c2) (.slice a3 R.low.length c3)) hB3
      rw [← hw4] at hB4 ⊢
      have hx4 : Ext [w.heap.size] w3 w4 := by rw [hw4]; exact Ext.updI (by simp) Ext.refl
      clear hw4
      have hC4 := hx4.at hC3 (by simp)
      have hD4 := hx4.at hD3 (by simp; omega)
      have g0 := own_box hR3.ps hB3 (by decide) hx4
      have g1 := own_box hR3.es hB3 (by decide) hx4
      have g2 := own_box hR3.mid hB3 (by decide) hx4
      have g3 := own_box hR3.low hB3 (by decide) hx4
      have hy4 : Ext [w.heap.size] W w4 := (hy3.mono (by simp)).trans hx4 (by simp)
      obtain ⟨k, hk⟩ : ∃ k, k = va / 4096 := ⟨_, rfl⟩
      rw [← hk] at g0 g1 g2 g3 hB4 e12
      obtain ⟨P, hP⟩ : ∃ P, P = (clr R k).ps := ⟨_, rfl⟩
      have hPl : P.length < 50000 := by
        have := List.length_filter_le (fun p : Nat × EntE => !(p.1 == k)) R.ps
        rw [hP]
        unfold clr
        show (R.ps.filter _).length < 50000
        omega
      rw [← hP] at g0 g1 hB4
      clear hx4 hB3 hC3 hD3 hx3 hR3 hy3 hR2 hRW hroom hbad
      refine joinL.intro fun J8 hJ8 => ?_
      refine mid_region hB4 g2 (by omega) hva ⟨_, _, _, _, _, _, _, _, _, rfl, rfl, rfl⟩ rfl rfl fun u2 w5 g2' hB5 hx5 => ?_
      apply hJ8
      intro _
      clear hJ8
      have hC5 := hx5.at hC4 (by simp)
      have hD5 := hx5.at hD4 (by simp; omega)
      have g0 := own_box g0 hB4 (by decide) hx5
      have g1 := own_box g1 hB4 (by decide) hx5
      have g3 := own_box g3 hB4 (by decide) hx5
      have hy5 := hy4.trans hx5 (by simp)
      obtain ⟨m2, mc2, hm2⟩ := g2'.rows.len
      subst hm2
      refine joinL.intro fun J10 hJ10 => ?_
      refine low_region hB5 g3 (by omega) hva ⟨_, _, _, _, _, _, _, _, _, rfl, rfl, rfl⟩ rfl rfl fun u3 w6 g3' hB6 hx6 => ?_
      apply hJ10
      intro _
      clear hJ10
      have hC6 := hx6.at hC5 (by simp)
      have hD6 := hx6.at hD5 (by simp; omega)
      have g0 := own_box g0 hB5 (by decide) hx6
      have g1 := own_box g1 hB5 (by decide) hx6
      have g2' := own_box g2' hB5 (by decide) hx6
      have hy6 := hy5.trans hx6 (by simp)
      obtain ⟨m3, mc3, hm3⟩ := g3'.rows.len
      subst hm3
      have lB6 := lt_of_at hB6
      have hlen := g0.rows.lenR (ty := 3) Try.underlying34
      rw [List.length_map] at hlen
      refine loopT.intro (fun st w' => ∃ j : Nat, j ≤ P.length ∧ st = [.int .i64 (j : Nat)] ∧ (∀ p ∈ P.take j, p.1 < k) ∧ w' = w6)
        (fun st _ => match st with
          | [.int _ z] => P.length - z.toNat
          | _ => 0) ⟨0, Nat.zero_le _, rfl, by simp, rfl⟩ ?_
      rintro st w' ⟨j, hj, rfl, hbef, rfl⟩ _
      obtain ⟨B, hBd⟩ : ∃ B, B = w.heap.size := ⟨_, rfl⟩
      rw [← hBd] at hB6 hC6 hD6
      have hfin : (∀ p, P[j]? = some p → ¬ p.1 < k) → ∀ u0' u1' (w9 : World), OwnR w9 0 23 1 u0' (((P.map (·.1)).take j ++ va / 4096 :: (P.map (·.1)).drop j).map uC) → OwnR w9 0 46 13 u1' (((P.map (·.2)).take j ++ ⟨f, x⟩ :: (P.map (·.2)).drop j).map entE) → OwnR w9 0 23 1 (.slice m2 ((if va / 1073741824 ∈ R.mid then R.mid else R.mid ++ [va / 1073741824]).map uC).length mc2) ((if va / 1073741824 ∈ R.mid then R.mid else R.mid ++ [va / 1073741824]).map uC) → OwnR w9 0 23 1 (.slice m3 ((if va / 2097152 ∈ R.low then R.low else R.low ++ [va / 2097152]).map uC).length mc3) ((if va / 2097152 ∈ R.low then R.low else R.low ++ [va / 2097152]).map uC) → Ext [] w w9 → K (.tuple #[.agg (tvC u0' u1' (.slice m2 ((if va / 1073741824 ∈ R.mid then R.mid else R.mid ++ [va / 1073741824]).map uC).length mc2) (.slice m3 ((if va / 2097152 ∈ R.low then R.low else R.low ++ [va / 2097152]).map uC).length mc3)).toArray, .int .i64 0]) w9 := by
        intro hstop u0' u1' w9 q0 q1 q2 q3 hx9
        obtain ⟨t1, t2⟩ := take_while hj hbef hstop
        have hins : insR P k ⟨f, x⟩ = P.take j ++ (k, ⟨f, x⟩) :: P.drop j := by
          unfold insR
          rw [t1, t2]
        refine hK _ _ _ _ _ ⟨?_, ?_, q2, q3⟩ hx9
        · show OwnR w9 0 23 1 u0' ((insR (clr R (va / 4096)).ps (va / 4096) ⟨f, x⟩).map fun p => uC p.1)
          rw [← hk, ← hP, hins]
          rw [← hk] at q0
          simpa [List.map_take, List.map_drop, Function.comp_def] using q0
        · show OwnR w9 0 46 13 u1' ((insR (clr R (va / 4096)).ps (va / 4096) ⟨f, x⟩).map fun p => entE p.2)
          rw [← hk, ← hP, hins]
          simpa [List.map_take, List.map_drop, Function.comp_def] using q1
      clear hK
      have hend : (∀ p, P[j]? = some p → ¬ p.1 < k) → ∀ (v4 v6 v8 t1 : Value) (s12 : List Value) (w : World), v4 = .pointer (some ⟨B, 0, none⟩) → v6 = .pointer (some ⟨B + 1, 0, none⟩) → v8 = .pointer (some ⟨B + 1 + 1, 0, none⟩) → t1 = .int .u64 (va : Nat) → s12 = [.int .i64 (j : Nat)] → w' = w → joinL (fun J15 => (drewK (fun w =>
  relX fun R21 =>
  postX R21 (fun p21_98 => allX R21 w fun V21 w => True → kV Try.prog (Instr.buildSlice 34 0 #[]) w (okX R21 w p21_98)) fun p21_98 =>
  postX R21 (fun p21_99 => allX R21 w fun V21 w => True → kV Try.prog (Instr.fieldAt 37 v4 0) w (okX R21 w p21_99)) fun p21_99 =>
  postX R21 (fun p21_100 => allX R21 w fun V21 w => p21_99 (V21 99) w ∧ True → kV Try.prog (Instr.loadAt 34 (V21 99)) w (okX R21 w p21_100)) fun p21_100 =>
  postX R21 (fun p21_101 => allX R21 w fun V21 w => True → (okX R21 w p21_101) (s12.getD 0 undef) w) fun p21_101 =>
  postX R21 (fun p21_102 => allX R21 w fun V21 w => p21_100 (V21 100) w ∧ p21_101 (V21 101) w ∧ True → kV Try.prog (Instr.sliceAt 34 (V21 100) none (some (V21 101)) none) w (okX R21 w p21_102)) fun p21_102 =>
  postX R21 (fun p21_103 => allX R21 w fun V21 w => p21_98 (V21 98) w ∧ p21_102 (V21 102) w ∧ True → kV Try.prog (Builtin.append_ #[34, 34] 34 #[(V21 98), (V21 102)]) w (okX R21 w p21_103)) fun p21_103 =>
  postX R21 (fun p21_104 => allX R21 w fun V21 w => True → (okX R21 w p21_104) t1 w) fun p21_104 =>
  postX R21 (fun p21_105 => allX R21 w fun V21 w => p21_104 (V21 104) w ∧ True → kV Try.prog (binV .quo 23 (.tmp 104) (.const (.int .u64 4096)) (V21 104) (.int .u64 4096)) w (okX R21 w p21_105)) fun p21_105 =>
  postX R21 (fun p21_106 => allX R21 w fun V21 w => p21_105 (V21 105) w ∧ True → kV Try.prog (Instr.buildSlice 34 1 #[(0, (V21 105))]) w (okX R21 w p21_106)) fun p21_106 =>
  postX R21 (fun p21_107 => allX R21 w fun V21 w => p21_103 (V21 103) w ∧ p21_106 (V21 106) w ∧ True → kV Try.prog (Builtin.append_ #[34, 34] 34 #[(V21 103), (V21 106)]) w (okX R21 w p21_107)) fun p21_107 =>
  postX R21 (fun p21_108 => allX R21 w fun V21 w => True → kV Try.prog (Instr.fieldAt 37 v4 0) w (okX R21 w p21_108)) fun p21_108 =>
  postX R21 (fun p21_109 => allX R21 w fun V21 w => p21_108 (V21 108) w ∧ True → kV Try.prog (Instr.loadAt 34 (V21 108)) w (okX R21 w p21_109)) fun p21_109 =>
  postX R21 (fun p21_110 => allX R21 w fun V21 w => True → (okX R21 w p21_110) (s12.getD 0 undef) w) fun p21_110 =>
  postX R21 (fun p21_111 => allX R21 w fun V21 w => p21_109 (V21 109) w ∧ p21_110 (V21 110) w ∧ True → kV Try.prog (Instr.sliceAt 34 (V21 109) (some (V21 110)) none none) w (okX R21 w p21_111)) fun p21_111 =>
  postX R21 (fun p21_112 => allX R21 w fun V21 w => p21_107 (V21 107) w ∧ p21_111 (V21 111) w ∧ True → kV Try.prog (Builtin.append_ #[34, 34] 34 #[(V21 107), (V21 111)]) w (okX R21 w p21_112)) fun p21_112 =>
  allX R21 w fun V21 w => p21_98 (V21 98) w ∧ p21_99 (V21 99) w ∧ p21_100 (V21 100) w ∧ p21_101 (V21 101) w ∧ p21_102 (V21 102) w ∧ p21_103 (V21 103) w ∧ p21_104 (V21 104) w ∧ p21_105 (V21 105) w ∧ p21_106 (V21 106) w ∧ p21_107 (V21 107) w ∧ p21_108 (V21 108) w ∧ p21_109 (V21 109) w ∧ p21_110 (V21 110) w ∧ p21_111 (V21 111) w ∧ p21_112 (V21 112) w ∧ True → xDist V21 [] →
  kV Try.prog (Instr.fieldAt 37 v4 0) w fun v113 w =>
  kU Try.prog (Instr.storeAt 34 v113 (V21 112)) w fun _ w =>
  J15 [] w) w)) ((fun s15 w => ∀ _ : Nat → Value,
  joinL (fun J17 =>
  drewK (fun w =>
  relX fun R20 =>
  postX R20 (fun p20_114 => allX R20 w fun V20 w => True → kV Try.prog (Instr.buildSlice 35 0 #[]) w (okX R20 w p20_114)) fun p20_114 =>
  postX R20 (fun p20_115 => allX R20 w fun V20 w => True → kV Try.prog (Instr.fieldAt 37 v4 1) w (okX R20 w p20_115)) fun p20_115 =>
  postX R20 (fun p20_116 => allX R20 w fun V20 w => p20_115 (V20 115) w ∧ True → kV Try.prog (Instr.loadAt 35 (V20 115)) w (okX R20 w p20_116)) fun p20_116 =>
  postX R20 (fun p20_117 => allX R20 w fun V20 w => True → (okX R20 w p20_117) (s12.getD 0 undef) w) fun p20_117 =>
  postX R20 (fun p20_118 => allX R20 w fun V20 w => p20_116 (V20 116) w ∧ p20_117 (V20 117) w ∧ True → kV Try.prog (Instr.sliceAt 35 (V20 116) none (some (V20 117)) none) w (okX R20 w p20_118)) fun p20_118 =>
  postX R20 (fun p20_119 => allX R20 w fun V20 w => p20_114 (V20 114) w ∧ p20_118 (V20 118) w ∧ True → kV Try.prog (Builtin.append_ #[35, 35] 35 #[(V20 114), (V20 118)]) w (okX R20 w p20_119)) fun p20_119 =>
  postX R20 (fun p20_120 => allX R20 w fun V20 w => True → kV Try.prog (Instr.loadAt 46 v6) w (okX R20 w p20_120)) fun p20_120 =>
  postX R20 (fun p20_121 => allX R20 w fun V20 w => p20_120 (V20 120) w ∧ True → kV Try.prog (Instr.buildSlice 35 1 #[(0, (V20 120))]) w (okX R20 w p20_121)) fun p20_121 =>
  postX R20 (fun p20_122 => allX R20 w fun V20 w => p20_119 (V20 119) w ∧ p20_121 (V20 121) w ∧ True → kV Try.prog (Builtin.append_ #[35, 35] 35 #[(V20 119), (V20 121)]) w (okX R20 w p20_122)) fun p20_122 =>
  postX R20 (fun p20_123 => allX R20 w fun V20 w => True → kV Try.prog (Instr.fieldAt 37 v4 1) w (okX R20 w p20_123)) fun p20_123 =>
  postX R20 (fun p20_124 => allX R20 w fun V20 w => p20_123 (V20 123) w ∧ True → kV Try.prog (Instr.loadAt 35 (V20 123)) w (okX R20 w p20_124)) fun p20_124 =>
  postX R20 (fun p20_125 => allX R20 w fun V20 w => True → (okX R20 w p20_125) (s12.getD 0 undef) w) fun p20_125 =>
  postX R20 (fun p20_126 => allX R20 w fun V20 w => p20_124 (V20 124) w ∧ p20_125 (V20 125) w ∧ True → kV Try.prog (Instr.sliceAt 35 (V20 124) (some (V20 125)) none none) w (okX R20 w p20_126)) fun p20_126 =>
  postX R20 (fun p20_127 => allX R20 w fun V20 w => p20_122 (V20 122) w ∧ p20_126 (V20 126) w ∧ True → kV Try.prog (Builtin.append_ #[35, 35] 35 #[(V20 122), (V20 126)]) w (okX R20 w p20_127)) fun p20_127 =>
  allX R20 w fun V20 w => p20_114 (V20 114) w ∧ p20_115 (V20 115) w ∧ p20_116 (V20 116) w ∧ p20_117 (V20 117) w ∧ p20_118 (V20 118) w ∧ p20_119 (V20 119) w ∧ p20_120 (V20 120) w ∧ p20_121 (V20 121) w ∧ p20_122 (V20 122) w ∧ p20_123 (V20 123) w ∧ p20_124 (V20 124) w ∧ p20_125 (V20 125) w ∧ p20_126 (V20 126) w ∧ p20_127 (V20 127) w ∧ True → xDist V20 [] →
  kV Try.prog (Instr.fieldAt 37 v4 1) w fun v128 w =>
  kU Try.prog (Instr.storeAt 35 v128 (V20 127)) w fun _ w =>
  J17 [] w) w) fun s17 w => ∀ _ : Nat → Value,
  kV Try.prog (Instr.loadAt 37 v4) w fun v129 w =>
  kU Try.prog (Instr.storeAt 37 v8 v129) w fun _ w =>
  retV Try.prog 37 v8 w fun r19 =>
  K (.tuple #[r19, (.int .i64 0)]) w)) := by
        rintro hstop _ _ _ _ _ _ rfl rfl rfl rfl rfl rfl
        refine joinL.intro fun J15 hJ15 => ?_
        have q0 : OwnR w' 0 23 1 (.slice b0 (P.map (·.1)).length d0) ((P.map (·.1)).map uC) := by
          rw [List.length_map, List.map_map]
          exact g0
        have q1 : OwnR w' 0 46 13 (.slice b1 (P.map (·.2)).length d1) ((P.map (·.2)).map entE) := by
          rw [List.length_map, List.map_map]
          exact g1
        have hB6' := hB6
        rw [show P.length = (P.map (·.1)).length by rw [List.length_map]] at hB6'
        refine ins_pages (P := P.map (·.1)) hB6' q0 (by rw [List.length_map]; exact hj) (by rw [List.length_map]; omega) hva ⟨_, _, _, _, _, _, _, _, _, rfl, rfl, rfl⟩ rfl rfl rfl fun u0' w7 q0' hB7 hx7 => ?_
        apply hJ15
        intro _
        clear hJ15
        obtain ⟨e0, ec0, he0⟩ := q0'.rows.len
        subst he0
        have hC7 := hx7.at hC6 (by simp)
        have hD7 := hx7.at hD6 (by simp; omega)
        have q1 := own_box q1 hB6 (by decide) hx7
        have q2 := own_box g2' hB6 (by decide) hx7
        have q3 := own_box g3' hB6 (by decide) hx7
        refine joinL.intro fun J17 hJ17 => ?_
        have hB7' := hB7
        rw [show (P.map (·.1)).length = (P.map (·.2)).length by rw [List.length_map, List.length_map]] at hB7'
        refine ins_entries (P := P.map (·.2)) (e := ⟨f, x⟩) hB7' q1 (by rw [List.length_map]; exact hj) (by rw [List.length_map]; omega) hC7 ⟨_, _, _, _, _, _, _, _, _, rfl, rfl, rfl⟩ rfl rfl rfl fun u1' w8 q1' hB8 hx8 => ?_
        apply hJ17
        intro _
        clear hJ17
        obtain ⟨e1', ec1, he1⟩ := q1'.rows.len
        subst he1
        have hD8 := hx8.at hD7 (by simp; omega)
        have q0' := own_box q0' hB7 (by decide) hx8
        have q2 := own_box q2 hB7 (by decide) hx8
        have q3 := own_box q3 hB7 (by decide) hx8
        have lB8 := lt_of_at hB8
        have lD8 := lt_of_at hD8
        simp (disch := first | assumption | omega | (simp only [szR, entC_len, entC_all, tvC_len, tvC_all] <;> omega) | rfl | decide) only [gen0, gen1, gen2, rulesM, rulesT, rulesQ, litR, bolR, Nat.reduceAdd, Nat.reduceLeDiff, numR, memR, valR, heapR, updR, intR, decR, extR, slR, segR, thenR, pnR, Int.reduceToNat, Int.reduceAdd, Int.reduceSub, Int.reduceLT, Int.reduceLE, Nat.reduceSub, Nat.reduceMul, Nat.reduceEqDiff, hB8, hD8, tvC_sub, tv_drop]
        have hxu : ∀ L, Ext [B + 1 + 1] w8 (World.upd w8 (B + 1 + 1) L) := fun L => Ext.updI (by simp) Ext.refl
        exact hfin hstop _ _ _ (own_box q0' hD8 (by decide) (hxu _)) (own_box q1' hD8 (by decide) (hxu _)) (own_box q2 hD8 (by decide) (hxu _)) (own_box q3 hD8 (by decide) (hxu _)) ((((hxW.trans hy6 (fun b hb => .inr (by rw [List.mem_singleton.1 hb]; exact Nat.le_refl _))).trans hx7 (fun b hb => .inr (by rw [List.mem_singleton.1 hb]; omega))).trans hx8 (fun b hb => .inr (by rw [List.mem_singleton.1 hb]; omega))).trans (hxu _) (fun b hb => .inr (by rw [List.mem_singleton.1 hb]; omega)))
      have hstop : ∀ p, P[j]? = some p → j < P.length := fun p hp => (List.getElem?_eq_some_iff.1 hp).1
      rw [← hBd] at lB6
      rw [hBd] at hend
      by_cases hjl : j < P.length
      · obtain ⟨b, o, L, E, ff, hix, hb, hfit, hlt2, hblk, hsub, hget⟩ := RowsAt.ixR (P := Try.prog) (t := 34) Try.underlying34 Try.sizeOf23 g0.rows (k := j) (r := uC P[j].1) (by simp [hjl])
        have hg0 := hget o 0 (by omega) (by omega)
        simp only [uC, List.getElem?_cons_zero] at hg0
        have hix' : ∀ w, (Instr.indexAt 34 (.slice b0 P.length d0) (.int .i64 (j : Nat))).run Try.prog w = .ok (.pointer (some ⟨b, o, none⟩)) w := fun w => hix w .i64 j rfl
        have e6 : decide (((j : Nat) : Int) < ((P.length : Nat) : Int)) = true := decide_eq_true (by omega)
        rw [hBd] at hB6 lB6
        by_cases hpk : P[j].1 < k
        · have e7 : decide (((P[j].1 : Nat) : Int) < ((k : Nat) : Int)) = true := decide_eq_true (by omega)
          simp (disch := first | assumption | omega | (simp only [szR, entC_len, entC_all, tvC_len, tvC_all] <;> omega) | rfl | decide) only [gen0, gen1, gen2, rulesM, rulesT, rulesQ, litR, bolR, Nat.reduceAdd, Nat.reduceLeDiff, numR, memR, valR, heapR, updR, intR, decR, extR, slR, segR, thenR, pnR, Int.reduceToNat, Int.reduceAdd, Int.reduceSub, Int.reduceLT, Int.reduceLE, Nat.reduceSub, Nat.reduceMul, Nat.reduceEqDiff, joinBR, hB6, tvC_0, hlen, e6, hix', hb, hg0, e12, e7]
          refine ⟨⟨j + 1, by omega, rfl, ?_, by simp⟩, by omega⟩
          intro p hp
          rw [List.take_succ_eq_append_getElem hjl, List.mem_append, List.mem_singleton] at hp
          rcases hp with hp | hp
          · exact hbef p hp
          · rw [hp]
            exact hpk
        · have e7 : decide (((P[j].1 : Nat) : Int) < ((k : Nat) : Int)) = false := decide_eq_false (by omega)
          simp (disch := first | assumption | omega | (simp only [szR, entC_len, entC_all, tvC_len, tvC_all] <;> omega) | rfl | decide) only [gen0, gen1, gen2, rulesM, rulesT, rulesQ, litR, bolR, Nat.reduceAdd, Nat.reduceLeDiff, numR, memR, valR, heapR, updR, intR, decR, extR, slR, segR, thenR, pnR, Int.reduceToNat, Int.reduceAdd, Int.reduceSub, Int.reduceLT, Int.reduceLE, Nat.reduceSub, Nat.reduceMul, Nat.reduceEqDiff, joinBR, hB6, tvC_0, hlen, e6, hix', hb, hg0, e12, e7]
          exact hend (fun p hp => by rw [List.getElem?_eq_getElem hjl] at hp; rw [← Option.some.inj hp]; exact hpk) _ _ _ _ _ _ rfl rfl rfl rfl rfl rfl
      · have e6 : decide (((j : Nat) : Int) < ((P.length : Nat) : Int)) = false := decide_eq_false (by omega)
        rw [hBd] at hB6 lB6
        simp (disch := first | assumption | omega | (simp only [szR, entC_len, entC_all, tvC_len, tvC_all] <;> omega) | rfl | decide) only [gen0, gen1, gen2, rulesM, rulesT, rulesQ, litR, bolR, Nat.reduceAdd, Nat.reduceLeDiff, numR, memR, valR, heapR, updR, intR, decR, extR, slR, segR, thenR, pnR, Int.reduceToNat, Int.reduceAdd, Int.reduceSub, Int.reduceLT, Int.reduceLE, Nat.reduceSub, Nat.reduceMul, Nat.reduceEqDiff, joinBR, hB6, tvC_0, hlen, e6]
        exact hend (fun p hp => absurd (hstop p hp) hjl) _ _ _ _ _ _ rfl rfl rfl rfl rfl rfl
    clear hJ5
    simp (disch := first | assumption | omega | (simp only [szR, entC_len, entC_all, tvC_len, tvC_all] <;> omega) | rfl | decide) only [gen0, gen1, gen2, rulesM, rulesT, rulesQ, litR, bolR, Nat.reduceAdd, Nat.reduceLeDiff, numR, memR, valR, heapR, updR, intR, decR, extR, slR, segR, thenR, pnR, Int.reduceToNat, Int.reduceAdd, Int.reduceSub, Int.reduceLT, Int.reduceLE, Nat.reduceSub, Nat.reduceMul, Nat.reduceEqDiff, hB2, tvC_3, e21]
    refine has_spec hR2.low.rows (by omega) ?_
    unfold needR at hgo5
    by_cases hm : va / 2097152 ∈ R.low
    · rw [decide_eq_true hm]
      simp (disch := first | assumption | omega | (simp only [szR, entC_len, entC_all, tvC_len, tvC_all] <;> omega) | rfl | decide) only [gen0, gen1, gen2, rulesM, rulesT, rulesQ, litR, bolR, Nat.reduceAdd, Nat.reduceLeDiff, numR, memR, valR, heapR, updR, intR, decR, extR, slR, segR, thenR, pnR, Int.reduceToNat, Int.reduceAdd, Int.reduceSub, Int.reduceLT, Int.reduceLE, Nat.reduceSub, Nat.reduceMul, Nat.reduceEqDiff, Bool.not_true]
      exact hgo5 a (by rw [ha, if_pos hm, Nat.add_zero])
    · rw [decide_eq_false hm]
      have ea : ((a : Nat) : Int) + 1 = ((a + 1 : Nat) : Int) := by omega
      have ha2 : a ≤ 1 := by rw [ha]; split <;> omega
      simp (disch := first | assumption | omega | (simp only [szR, entC_len, entC_all, tvC_len, tvC_all] <;> omega) | rfl | decide) only [gen0, gen1, gen2, rulesM, rulesT, rulesQ, litR, bolR, Nat.reduceAdd, Nat.reduceLeDiff, numR, memR, valR, heapR, updR, intR, decR, extR, slR, segR, thenR, pnR, Int.reduceToNat, Int.reduceAdd, Int.reduceSub, Int.reduceLT, Int.reduceLE, Nat.reduceSub, Nat.reduceMul, Nat.reduceEqDiff, Bool.not_false, ea]
      exact hgo5 (a + 1) (by rw [ha, if_neg hm])
  clear hJ3
  simp (disch := first | assumption | omega | (simp only [szR, entC_len, entC_all, tvC_len, tvC_all] <;> omega) | rfl | decide) only [gen0, gen1, gen2, rulesM, rulesT, rulesQ, litR, bolR, Nat.reduceAdd, Nat.reduceLeDiff, numR, memR, valR, heapR, updR, intR, decR, extR, slR, segR, thenR, pnR, Int.reduceToNat, Int.reduceAdd, Int.reduceSub, Int.reduceLT, Int.reduceLE, Nat.reduceSub, Nat.reduceMul, Nat.reduceEqDiff, hB2, tvC_2, e30]
  refine has_spec hR2.mid.rows (by omega) ?_
  by_cases hm : va / 1073741824 ∈ R.mid
  · rw [decide_eq_true hm]
    simp (disch := first | assumption | omega | (simp only [szR, entC_len, entC_all, tvC_len, tvC_all] <;> omega) | rfl | decide) only [gen0, gen1, gen2, rulesM, rulesT, rulesQ, litR, bolR, Nat.reduceAdd, Nat.reduceLeDiff, numR, memR, valR, heapR, updR, intR, decR, extR, slR, segR, thenR, pnR, Int.reduceToNat, Int.reduceAdd, Int.reduceSub, Int.reduceLT, Int.reduceLE, Nat.reduceSub, Nat.reduceMul, Nat.reduceEqDiff, Bool.not_true]
    exact hgo3 0 (by rw [if_pos hm])
  · rw [decide_eq_false hm]
    simp (disch := first | assumption | omega | (simp only [szR, entC_len, entC_all, tvC_len, tvC_all] <;> omega) | rfl | decide) only [gen0, gen1, gen2, rulesM, rulesT, rulesQ, litR, bolR, Nat.reduceAdd, Nat.reduceLeDiff, numR, memR, valR, heapR, updR, intR, decR, extR, slR, segR, thenR, pnR, Int.reduceToNat, Int.reduceAdd, Int.reduceSub, Int.reduceLT, Int.reduceLE, Nat.reduceSub, Nat.reduceMul, Nat.reduceEqDiff, Bool.not_false]
    exact hgo3 1 (by rw [if_neg hm])
end Go.Proofs.Ytfpcflmgipklcaa
