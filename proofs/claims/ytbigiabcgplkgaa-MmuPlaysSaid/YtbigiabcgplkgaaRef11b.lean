/- What the document's lines do when one is put, or goes; conditions: those of each theorem. -/
import Derived.Test.YtbigiabcgplkgaaRef11
namespace Go.Proofs.Ytbigiabcgplkgaa
open Go.Fx
set_option maxRecDepth 100000
set_option linter.unusedSimpArgs false
set_option linter.unusedVariables false
/-- the place that goes. -/
def gone (n : Nat) (place : Int) : Nat := ((place.tmod n + n) % n).toNat
theorem gone_lt {n : Nat} (h : 0 < n) (place : Int) : gone n place < n := by
  unfold gone
  have h1 : 0 ≤ (place.tmod n + n) % n := Int.emod_nonneg _ (by omega)
  have h2 : (place.tmod n + n) % n < n := Int.emod_lt_of_pos _ (by omega)
  omega
theorem gone_eq {n : Nat} (h : 0 < n) (place : Int) : (place.tmod n + n) % n = (gone n place : Int) ∧ -(n : Int) < place.tmod n ∧ place.tmod n < n := by
  have h1 : 0 ≤ (place.tmod n + n) % n := Int.emod_nonneg _ (by omega)
  refine ⟨by unfold gone; omega, ?_, ?_⟩
  · have := Int.lt_tmod_of_pos place (show (0 : Int) < n by omega); omega
  · exact Int.tmod_lt_of_pos place (by omega)
theorem rEvict_spec {w : World} {t : Value} {R : List Rn} {place : Int} (ht : RowsAt w t 3 (R.map rfC)) (hR : R.length ≤ 1000) {K : Value → World → Prop}
    (hK : ∀ v w', RowsAt w' v 3 ((R.eraseIdx (gone R.length place)).map rfC) → (∀ b, blockOf v = some b → w.heap.size ≤ b ∨ blockOf t = some b) → Ext [] w w' → K v w') : callsK Try.prog 42 #[t, .int .i64 place] w K := by
  apply F42_ok
  unfold F42
  have hlen : (R.map rfC).length = R.length := List.length_map ..
  have hl := ht.lenR (ty := 3) Try.underlying86
  rw [hlen] at hl
  by_cases h0 : R.length = 0
  · simp (disch := first | assumption | omega | (simp only [szR] <;> omega) | rfl | decide) only [gen0, gen1, gen2, rulesM, rulesU, litR, bolR, Nat.reduceAdd, Nat.reduceLeDiff, numR, memR, valR, heapR, updR, intR, decR, extR, slR, segR, thenR, pnR, Int.reduceToNat, Int.reduceAdd, Int.reduceSub, Int.reduceLT, Int.reduceLE, Nat.reduceSub, Nat.reduceMul, Nat.reduceEqDiff, hl]
    refine hK _ _ ?_ (fun b hb => .inr hb) Ext.refl
    rw [List.eq_nil_of_length_eq_zero h0] at ht ⊢
    exact ht
  · obtain ⟨hz, hq1, hq2⟩ := gone_eq (n := R.length) (by omega) place
    have hg := gone_lt (n := R.length) (by omega) place
    generalize gone R.length place = j at hz hg hK
    simp (disch := first | assumption | omega | (simp only [szR] <;> omega) | rfl | decide) only [gen0, gen1, gen2, rulesM, rulesU, litR, bolR, Nat.reduceAdd, Nat.reduceLeDiff, numR, memR, valR, heapR, updR, intR, decR, extR, slR, segR, thenR, pnR, Int.reduceToNat, Int.reduceAdd, Int.reduceSub, Int.reduceLT, Int.reduceLE, Nat.reduceSub, Nat.reduceMul, Nat.reduceEqDiff, hl, hz]
    refine pV_cut Try.underlying86 Try.sizeOf153 ht 0 j (by omega) (by omega) (.inl ⟨rfl, rfl⟩) (.inr ⟨_, _, rfl, rfl⟩) fun v23 h23 b23 => ?_
    simp (disch := first | assumption | omega | (simp only [szR] <;> omega) | rfl | decide) only [gen0, gen1, gen2, rulesM, rulesU, litR, bolR, Nat.reduceAdd, Nat.reduceLeDiff, numR, memR, valR, heapR, updR, intR, decR, extR, slR, segR, thenR, pnR, Int.reduceToNat, Int.reduceAdd, Int.reduceSub, Int.reduceLT, Int.reduceLE, Nat.reduceSub, Nat.reduceMul, Nat.reduceEqDiff]
    refine pV_cut Try.underlying86 Try.sizeOf153 ht (j + 1) (R.map rfC).length (by omega) (Nat.le_refl _) (.inr ⟨_, _, rfl, by omega⟩) (.inl ⟨rfl, rfl⟩) fun v28 h28 b28 => ?_
    simp (disch := first | assumption | omega | (simp only [szR] <;> omega) | rfl | decide) only [gen0, gen1, gen2, rulesM, rulesU, litR, bolR, Nat.reduceAdd, Nat.reduceLeDiff, numR, memR, valR, heapR, updR, intR, decR, extR, slR, segR, thenR, pnR, Int.reduceToNat, Int.reduceAdd, Int.reduceSub, Int.reduceLT, Int.reduceLE, Nat.reduceSub, Nat.reduceMul, Nat.reduceEqDiff]
    have hx1 : Ext [] w (w.drew.alloc (.cells [].toArray 153)) := by (repeat first | assumption | exact Ext.refl | apply Ext.alloc | apply Ext.drew | (refine Ext.updN ?_ ?_; (focus first | omega | (simp only [szR] <;> omega))) | (refine Ext.updI ?_ ?_; (focus (simp; done))))
    have hb1 : (w.drew.alloc (.cells [].toArray 153)).heap[w.heap.size]? = some (.cells [].toArray 153 (0, 0)) := by simp (disch := first | assumption | omega | (simp only [szR] <;> omega) | rfl | decide) only [gen0, gen1, gen2, rulesM, rulesU, litR, bolR, Nat.reduceAdd, Nat.reduceLeDiff, numR, memR, valR, heapR, updR, intR, decR, extR, slR, segR, thenR, pnR, Int.reduceToNat, Int.reduceAdd, Int.reduceSub, Int.reduceLT, Int.reduceLE, Nat.reduceSub, Nat.reduceMul, Nat.reduceEqDiff]
    refine app70 (base := w.heap.size) (OwnR.empty hb1 (Nat.le_refl _)) (h23 _ (ht.ext hx1 (by simp))) (fun r hr => rfC_all R r (List.mem_of_mem_take (List.mem_of_mem_drop hr))) (by simp; omega) (by simp only [szR]; omega) fun v24 w2 h24 a24 => ?_
    simp (disch := first | assumption | omega | (simp only [szR] <;> omega) | rfl | decide) only [gen0, gen1, gen2, rulesM, rulesU, litR, bolR, Nat.reduceAdd, Nat.reduceLeDiff, numR, memR, valR, heapR, updR, intR, decR, extR, slR, segR, thenR, pnR, Int.reduceToNat, Int.reduceAdd, Int.reduceSub, Int.reduceLT, Int.reduceLE, Nat.reduceSub, Nat.reduceMul, Nat.reduceEqDiff]
    have hx := a24.ext w [] (Nat.le_refl _) hx1
    refine app70 (base := w.heap.size) h24 (h28 _ (ht.ext hx (by simp))) (fun r hr => rfC_all R r (List.mem_of_mem_take (List.mem_of_mem_drop hr))) (by simp; omega) hx.size fun v29 w3 h29 a29 => ?_
    refine hK _ _ ?_ (fun b hb => .inl (h29.block b hb)) (a29.ext w [] (Nat.le_refl _) hx)
    have := h29.rows
    rw [List.take_length] at this
    simpa [List.eraseIdx_eq_take_drop_succ] using this
theorem tail70 {W : World} {base : Nat} {v53 v55 v59 : Value} {r1 r2 : List (List Value)} {l : Rn} {K : Value → World → Prop} (h53 : OwnR W base 153 3 v53 r1) (h55 : RowsAt W v55 3 [rfC l]) (h59 : RowsAt W v59 3 r2) (hb59 : ∀ b, blockOf v59 = some b → b < base)
    (h1 : ∀ r ∈ r2, r.all (fun v => v.oneCell') = true) (hl : r1.length + r2.length ≤ 100000) (hbase : base ≤ W.heap.size)
    (hK : ∀ v' w', OwnR w' base 153 3 v' (r1 ++ [rfC l] ++ r2) → (∀ (w0 : World) (S : List Nat), w0.heap.size ≤ base → Ext S w0 W → Ext S w0 w') → K v' w') :
    resV (fun v56 w => kV Try.prog (Builtin.append_ #[86, 86] 86 #[v56, v59]) w K) ((Builtin.append_ #[86, 86] 86 #[v53, v55]).run Try.prog W) := by
  refine app70 h53 h55 (fun r hr => by rw [List.mem_singleton.1 hr]; rfl) (by simp; omega) hbase fun v56 w2 h56 a56 => ?_
  simp (disch := first | assumption | omega | (simp only [szR] <;> omega) | rfl | decide) only [gen0, gen1, gen2, rulesM, rulesU, litR, bolR, Nat.reduceAdd, Nat.reduceLeDiff, numR, memR, valR, heapR, updR, intR, decR, extR, slR, segR, thenR, pnR, Int.reduceToNat, Int.reduceAdd, Int.reduceSub, Int.reduceLT, Int.reduceLE, Nat.reduceSub, Nat.reduceMul, Nat.reduceEqDiff]
  have h59' := h59.stay a56.step hb59 (fun b hb => h53.block b (by simpa using hb))
  refine app70 h56 h59' h1 (by simp; omega) (Nat.le_trans hbase a56.step.size) fun v60 w3 h60 a60 => hK v60 w3 h60 fun w0 S h0 hx => a60.ext w0 S h0 (a56.ext w0 S h0 hx)
/-- what the document makes of its lines when one is put. -/
def rput (D : List Rn) (l : Rn) (A B : Nat) : List Rn := if A - B = 2 then (D.take A ++ [l] ++ D.drop A).eraseIdx B else D.take A ++ [l] ++ D.drop A
theorem rPut_spec {w : World} {t : Value} {R D : List Rn} {l : Rn} {A B : Nat} (ht : RowsAt w t 3 (R.map rfC)) (hR : R.length ≤ 1000) (hD : D = R.filter (fun r => !(r.a == l.a && r.n == l.n))) (hn : ∀ x ∈ R, 0 ≤ x.n) (hl0 : 0 ≤ l.n)
    (hA : A ≤ D.length) (hBA : B ≤ A) (h1 : ∀ j (h : j < D.length), D[j].n % 4 ≤ l.n % 4 ↔ j < A) (h2 : ∀ j (h : j < D.length), D[j].n % 4 = l.n % 4 ↔ B ≤ j ∧ j < A) {K : Value → World → Prop}
    (hK : ∀ v w', RowsAt w' v 3 ((rput D l A B).map rfC) → (∀ b, blockOf v = some b → w.heap.size ≤ b) → Ext [] w w' → K v w') : callsK Try.prog 78 #[t, .agg (rfC l).toArray] w K := by
  apply F78_ok
  unfold F78
  have hc0 : (rfC l)[0]? = some (.int .u64 l.a) := rfl
  have hc1 : (rfC l)[1]? = some (.int .u64 l.n) := rfl
  have hc3 : (rfC l).length = 3 := rfl
  have hcs : sub (rfC l) 0 3 = rfC l := rfl
  simp (disch := first | assumption | omega | (simp only [szR] <;> omega) | rfl | decide) only [gen0, gen1, gen2, rulesM, rulesU, litR, bolR, Nat.reduceAdd, Nat.reduceLeDiff, numR, memR, valR, heapR, updR, intR, decR, extR, slR, segR, thenR, pnR, Int.reduceToNat, Int.reduceAdd, Int.reduceSub, Int.reduceLT, Int.reduceLE, Nat.reduceSub, Nat.reduceMul, Nat.reduceEqDiff, hc0, hc1]
  refine rDrop_spec (ht.ext (Ext.alloc (S := []) Ext.refl _ _) (by simp)) hR fun v15 w1 hown hx1 => ?_
  have hx0 : Ext [] w w1 := ((Ext.refl (w := w) (S := [])).alloc _ _).trans hx1 (by simp)
  have hp := hx1.at (b := w.heap.size) (o := .cells (rfC l).toArray 153) (by simp (disch := first | assumption | omega | (simp only [szR] <;> omega) | rfl | decide) only [gen0, gen1, gen2, rulesM, rulesU, litR, bolR, Nat.reduceAdd, Nat.reduceLeDiff, numR, memR, valR, heapR, updR, intR, decR, extR, slR, segR, thenR, pnR, Int.reduceToNat, Int.reduceAdd, Int.reduceSub, Int.reduceLT, Int.reduceLE, Nat.reduceSub, Nat.reduceMul, Nat.reduceEqDiff]) (by simp)
  rw [← hD] at hown
  have hnD : ∀ x ∈ D, 0 ≤ x.n := fun x hx => hn x (List.mem_filter.1 (hD ▸ hx)).1
  have hDl : D.length ≤ 1000 := by rw [hD]; exact Nat.le_trans (List.length_filter_le _ _) hR
  have hrows := hown.rows
  have hlt15 := hown.blt
  have hlen : (D.map rfC).length = D.length := List.length_map ..
  have hln := hrows.lenR (ty := 3) Try.underlying86
  rw [hlen] at hln
  clear hown hR
  refine loopT.intro (fun st w' => ∃ (k : Nat) (x y u z : Int), k ≤ D.length ∧ st = [.int .i64 x, .int .i64 y, .int .i64 u, .int .i64 z] ∧ x = (min k A : Nat) ∧ y = (min k A - min k B : Nat) ∧ u = (if B < min k A then (B : Int) else -1) ∧ z = k ∧ Ext [] w1 w')
    (fun st _ => match st with
      | [_, _, _, .int _ z] => D.length - z.toNat
      | _ => 0) ⟨0, 0, 0, -1, 0, Nat.zero_le _, rfl, by simp, by simp, by simp, rfl, Ext.refl⟩ ?_
  rintro st w' ⟨k, x, y, u, z, hk, rfl, hx, hy, hu, rfl, hxt⟩ _
  have hrows' := hrows.ext hxt (by simp)
  have hp' := hxt.at hp (by simp)
  have hpl := lt_of_at hp'
  by_cases hkl : k < D.length
  · obtain ⟨g, o, cap, L, E, f, he, hg, hfit, hsub, hget⟩ := hrows'.row (k := k) (r := rfC D[k]) (by simp [hkl])
    have hg1 : ∀ p, p = o + k * 3 + 1 → L[p]? = some (.int .u64 D[k].n) := fun p hp => by rw [hget p (by omega) (by omega)]; subst hp; simp [show o + k * 3 + 1 - (o + k * 3) = 1 by omega, rfC]
    have h1k := h1 k hkl
    have h2k := h2 k hkl
    have hnk := hnD D[k] (List.getElem_mem hkl)
    have hm1 : D[k].n.tmod 4 = D[k].n % 4 := Int.tmod_eq_emod_of_nonneg hnk
    have hm2 : l.n.tmod 4 = l.n % 4 := Int.tmod_eq_emod_of_nonneg hl0
    have hix : ∀ w, (Instr.indexAt 86 v15 (.int .i64 k)).run Try.prog w = .ok (.pointer (some ⟨g, o + k * 3, none⟩)) w := by
      rw [he]
      intro w
      simp (disch := first | assumption | omega | (simp only [szR] <;> omega) | rfl | decide) only [gen0, gen1, gen2, rulesM, rulesU, litR, bolR, Nat.reduceAdd, Nat.reduceLeDiff, numR, memR, valR, heapR, updR, intR, decR, extR, slR, segR, thenR, pnR, Int.reduceToNat, Int.reduceAdd, Int.reduceSub, Int.reduceLT, Int.reduceLE, Nat.reduceSub, Nat.reduceMul, Nat.reduceEqDiff, hlen]
    by_cases hkB : k < B
    · have e1 : D[k].n % 4 ≤ l.n % 4 := h1k.2 (by omega)
      have e2 : ¬ D[k].n % 4 = l.n % 4 := fun h => by have := h2k.1 h; omega
      obtain rfl : x = k := by omega
      obtain rfl : y = 0 := by omega
      obtain rfl : u = -1 := by rw [hu, if_neg (by omega)]
      simp (disch := first | assumption | omega | (simp only [szR] <;> omega) | rfl | decide) only [gen0, gen1, gen2, rulesM, rulesU, litR, bolR, Nat.reduceAdd, Nat.reduceLeDiff, numR, memR, valR, heapR, updR, intR, decR, extR, slR, segR, thenR, pnR, Int.reduceToNat, Int.reduceAdd, Int.reduceSub, Int.reduceLT, Int.reduceLE, Nat.reduceSub, Nat.reduceMul, Nat.reduceEqDiff, joinR, hln, hix, hg, hg1, hp', hc1]
      intro _ _
      refine ⟨⟨k + 1, _, _, _, _, by omega, rfl, by omega, by omega, by rw [if_neg (by omega)], by omega, hxt.drew.drew⟩, by simp; omega⟩
    · by_cases hkA : k < A
      · have e1 : D[k].n % 4 ≤ l.n % 4 := h1k.2 (by omega)
        have e2 : D[k].n % 4 = l.n % 4 := h2k.2 (by omega)
        obtain rfl : x = k := by omega
        by_cases hkB2 : k = B
        · obtain rfl : u = -1 := by rw [hu, if_neg (by omega)]
          obtain rfl : y = 0 := by omega
          simp (disch := first | assumption | omega | (simp only [szR] <;> omega) | rfl | decide) only [gen0, gen1, gen2, rulesM, rulesU, litR, bolR, Nat.reduceAdd, Nat.reduceLeDiff, numR, memR, valR, heapR, updR, intR, decR, extR, slR, segR, thenR, pnR, Int.reduceToNat, Int.reduceAdd, Int.reduceSub, Int.reduceLT, Int.reduceLE, Nat.reduceSub, Nat.reduceMul, Nat.reduceEqDiff, joinR, hln, hix, hg, hg1, hp', hc1]
          intro _ _
          refine ⟨⟨k + 1, _, _, _, _, by omega, rfl, by omega, by omega, by rw [if_pos (by omega)]; omega, by omega, hxt.drew.drew⟩, by simp; omega⟩
        · obtain rfl : u = B := by rw [hu, if_pos (by omega)]
          simp (disch := first | assumption | omega | (simp only [szR] <;> omega) | rfl | decide) only [gen0, gen1, gen2, rulesM, rulesU, litR, bolR, Nat.reduceAdd, Nat.reduceLeDiff, numR, memR, valR, heapR, updR, intR, decR, extR, slR, segR, thenR, pnR, Int.reduceToNat, Int.reduceAdd, Int.reduceSub, Int.reduceLT, Int.reduceLE, Nat.reduceSub, Nat.reduceMul, Nat.reduceEqDiff, joinR, hln, hix, hg, hg1, hp', hc1]
          intro _ _
          refine ⟨⟨k + 1, _, _, _, _, by omega, rfl, by omega, by omega, by rw [if_pos (by omega)], by omega, hxt.drew.drew⟩, by simp; omega⟩
      · have e1 : ¬ D[k].n % 4 ≤ l.n % 4 := fun h => by have := h1k.1 h; omega
        have e2 : ¬ D[k].n % 4 = l.n % 4 := fun h => by have := h2k.1 h; omega
        simp (disch := first | assumption | omega | (simp only [szR] <;> omega) | rfl | decide) only [gen0, gen1, gen2, rulesM, rulesU, litR, bolR, Nat.reduceAdd, Nat.reduceLeDiff, numR, memR, valR, heapR, updR, intR, decR, extR, slR, segR, thenR, pnR, Int.reduceToNat, Int.reduceAdd, Int.reduceSub, Int.reduceLT, Int.reduceLE, Nat.reduceSub, Nat.reduceMul, Nat.reduceEqDiff, joinR, hln, hix, hg, hg1, hp', hc1]
        intro _ _
        refine ⟨⟨k + 1, _, _, _, _, by omega, rfl, by omega, by omega, ?_, by omega, hxt.drew.drew⟩, by simp; omega⟩
        rw [hu, show min (k + 1) A = min k A by omega]
  · obtain rfl : k = D.length := by omega
    obtain rfl : x = A := by omega
    obtain rfl : y = (A - B : Nat) := by omega
    have hxw : Ext [] w w' := hx0.trans hxt (by simp)
    have hws := hxt.size
    simp (disch := first | assumption | omega | (simp only [szR] <;> omega) | rfl | decide) only [gen0, gen1, gen2, rulesM, rulesU, litR, bolR, Nat.reduceAdd, Nat.reduceLeDiff, numR, memR, valR, heapR, updR, intR, decR, extR, slR, segR, thenR, pnR, Int.reduceToNat, Int.reduceAdd, Int.reduceSub, Int.reduceLT, Int.reduceLE, Nat.reduceSub, Nat.reduceMul, Nat.reduceEqDiff, hln]
    refine joinL.intro fun J6 hJ6 => ?_
    have hrest : ∀ v2 w2, OwnR w2 w'.heap.size 153 3 v2 ((D.map rfC).take A ++ [rfC l] ++ (D.map rfC).drop A) → Ext [] w w2 → J6 [v2] w2 := by
      intro v2 w2 g1 g2
      apply hJ6
      intro _
      refine joinL.intro fun J8 hJ8 => ?_
      have g3 : ((D.map rfC).take A ++ [rfC l] ++ (D.map rfC).drop A) = (D.take A ++ [l] ++ D.drop A).map rfC := by simp
      rw [g3] at g1
      have g4 := g1.rows
      have hend : ∀ v3 w3, RowsAt w3 v3 3 ((rput D l A B).map rfC) → (∀ b, blockOf v3 = some b → w.heap.size ≤ b) → Ext [] w w3 → J8 [v3] w3 := by
        intro v3 w3 k1 k3 k2
        apply hJ8
        intro _
        simp (disch := first | assumption | omega | (simp only [szR] <;> omega) | rfl | decide) only [gen0, gen1, gen2, rulesM, rulesU, litR, bolR, Nat.reduceAdd, Nat.reduceLeDiff, numR, memR, valR, heapR, updR, intR, decR, extR, slR, segR, thenR, pnR, Int.reduceToNat, Int.reduceAdd, Int.reduceSub, Int.reduceLT, Int.reduceLE, Nat.reduceSub, Nat.reduceMul, Nat.reduceEqDiff]
        exact hK _ _ k1 k3 k2
      by_cases h2' : A - B = 2
      · obtain rfl : u = B := by rw [hu, if_pos (by omega)]
        unfold rput at hend
        rw [if_pos h2'] at hend
        have hQl : (D.take A ++ [l] ++ D.drop A).length = D.length + 1 := by simp; omega
        generalize D.take A ++ [l] ++ D.drop A = Q at g1 g4 hend hQl
        have hQr : (Q.map rfC).length = D.length + 1 := by rw [List.length_map, hQl]
        simp (disch := first | assumption | omega | (simp only [szR] <;> omega) | rfl | decide) only [gen0, gen1, gen2, rulesM, rulesU, litR, bolR, Nat.reduceAdd, Nat.reduceLeDiff, numR, memR, valR, heapR, updR, intR, decR, extR, slR, segR, thenR, pnR, Int.reduceToNat, Int.reduceAdd, Int.reduceSub, Int.reduceLT, Int.reduceLE, Nat.reduceSub, Nat.reduceMul, Nat.reduceEqDiff, h2']
        refine pV_cut Try.underlying86 Try.sizeOf153 g4 0 B (by omega) (by omega) (.inl ⟨rfl, rfl⟩) (.inr ⟨_, _, rfl, rfl⟩) fun v66 h66 b66 => ?_
        simp (disch := first | assumption | omega | (simp only [szR] <;> omega) | rfl | decide) only [gen0, gen1, gen2, rulesM, rulesU, litR, bolR, Nat.reduceAdd, Nat.reduceLeDiff, numR, memR, valR, heapR, updR, intR, decR, extR, slR, segR, thenR, pnR, Int.reduceToNat, Int.reduceAdd, Int.reduceSub, Int.reduceLT, Int.reduceLE, Nat.reduceSub, Nat.reduceMul, Nat.reduceEqDiff]
        refine pV_cut Try.underlying86 Try.sizeOf153 g4 (B + 1) (Q.map rfC).length (by omega) (Nat.le_refl _) (.inr ⟨_, _, rfl, by omega⟩) (.inl ⟨rfl, rfl⟩) fun v71 h71 b71 => ?_
        simp (disch := first | assumption | omega | (simp only [szR] <;> omega) | rfl | decide) only [gen0, gen1, gen2, rulesM, rulesU, litR, bolR, Nat.reduceAdd, Nat.reduceLeDiff, numR, memR, valR, heapR, updR, intR, decR, extR, slR, segR, thenR, pnR, Int.reduceToNat, Int.reduceAdd, Int.reduceSub, Int.reduceLT, Int.reduceLE, Nat.reduceSub, Nat.reduceMul, Nat.reduceEqDiff]
        have hy1 : Ext [] w2 (w2.drew.alloc (.cells [].toArray 153)) := by (repeat first | assumption | exact Ext.refl | apply Ext.alloc | apply Ext.drew | (refine Ext.updN ?_ ?_; (focus first | omega | (simp only [szR] <;> omega))) | (refine Ext.updI ?_ ?_; (focus (simp; done))))
        have hb1 : (w2.drew.alloc (.cells [].toArray 153)).heap[w2.heap.size]? = some (.cells [].toArray 153 (0, 0)) := by simp (disch := first | assumption | omega | (simp only [szR] <;> omega) | rfl | decide) only [gen0, gen1, gen2, rulesM, rulesU, litR, bolR, Nat.reduceAdd, Nat.reduceLeDiff, numR, memR, valR, heapR, updR, intR, decR, extR, slR, segR, thenR, pnR, Int.reduceToNat, Int.reduceAdd, Int.reduceSub, Int.reduceLT, Int.reduceLE, Nat.reduceSub, Nat.reduceMul, Nat.reduceEqDiff]
        refine app70 (base := w2.heap.size) (OwnR.empty hb1 (Nat.le_refl _)) (h66 _ (g4.ext hy1 (by simp))) (fun r hr => rfC_all Q r (List.mem_of_mem_take (List.mem_of_mem_drop hr))) (by simp; omega) (by simp only [szR]; omega) fun v67 w3 h67 a67 => ?_
        simp (disch := first | assumption | omega | (simp only [szR] <;> omega) | rfl | decide) only [gen0, gen1, gen2, rulesM, rulesU, litR, bolR, Nat.reduceAdd, Nat.reduceLeDiff, numR, memR, valR, heapR, updR, intR, decR, extR, slR, segR, thenR, pnR, Int.reduceToNat, Int.reduceAdd, Int.reduceSub, Int.reduceLT, Int.reduceLE, Nat.reduceSub, Nat.reduceMul, Nat.reduceEqDiff]
        have hy := a67.ext w2 [] (Nat.le_refl _) hy1
        refine app70 (base := w2.heap.size) h67 (h71 _ (g4.ext hy (by simp))) (fun r hr => rfC_all Q r (List.mem_of_mem_take (List.mem_of_mem_drop hr))) (by simp; omega) hy.size fun v72 w4 h72 a72 => ?_
        refine hend _ _ ?_ (fun b hb => Nat.le_trans g2.size (h72.block b hb)) (g2.trans (a72.ext w2 [] (Nat.le_refl _) hy) (by simp))
        have := h72.rows
        rw [List.take_length] at this
        simpa [List.eraseIdx_eq_take_drop_succ] using this
      · simp (disch := first | assumption | omega | (simp only [szR] <;> omega) | rfl | decide) only [gen0, gen1, gen2, rulesM, rulesU, litR, bolR, Nat.reduceAdd, Nat.reduceLeDiff, numR, memR, valR, heapR, updR, intR, decR, extR, slR, segR, thenR, pnR, Int.reduceToNat, Int.reduceAdd, Int.reduceSub, Int.reduceLT, Int.reduceLE, Nat.reduceSub, Nat.reduceMul, Nat.reduceEqDiff]
        exact hend v2 w2 (by unfold rput; rw [if_neg h2']; exact g4) (fun b hb => Nat.le_trans hxw.size (g1.block b hb)) g2
    simp (disch := first | assumption | omega | (simp only [szR] <;> omega) | rfl | decide) only [gen0, gen1, gen2, rulesM, rulesU, litR, bolR, Nat.reduceAdd, Nat.reduceLeDiff, numR, memR, valR, heapR, updR, intR, decR, extR, slR, segR, thenR, pnR, Int.reduceToNat, Int.reduceAdd, Int.reduceSub, Int.reduceLT, Int.reduceLE, Nat.reduceSub, Nat.reduceMul, Nat.reduceEqDiff]
    refine pV_cut Try.underlying86 Try.sizeOf153 hrows 0 A (by omega) (by omega) (.inl ⟨rfl, rfl⟩) (.inr ⟨_, _, rfl, rfl⟩) fun v52 h52 b52 => ?_
    simp (disch := first | assumption | omega | (simp only [szR] <;> omega) | rfl | decide) only [gen0, gen1, gen2, rulesM, rulesU, litR, bolR, Nat.reduceAdd, Nat.reduceLeDiff, numR, memR, valR, heapR, updR, intR, decR, extR, slR, segR, thenR, pnR, Int.reduceToNat, Int.reduceAdd, Int.reduceSub, Int.reduceLT, Int.reduceLE, Nat.reduceSub, Nat.reduceMul, Nat.reduceEqDiff]
    refine pV_cut Try.underlying86 Try.sizeOf153 hrows A (D.map rfC).length (by omega) (Nat.le_refl _) (.inr ⟨_, _, rfl, rfl⟩) (.inl ⟨rfl, rfl⟩) fun v59 h59 b59 => ?_
    rw [List.take_length] at h59
    rw [List.drop_zero] at h52
    clear hK hJ6 hx hy hu h1 h2 hn ht hD hx1
    have hR : ∀ W, Ext [] w1 W → RowsAt W v15 3 (D.map rfC) := fun W h => hrows.ext h (by simp)
    have hb59 : ∀ b, blockOf v59 = some b → b < w'.heap.size := fun b hb => by
      have := hlt15 b (b59 ▸ hb)
      omega
    have a52 : ∀ r ∈ (D.map rfC).take A, r.all (fun v => v.oneCell') = true := fun r hr => rfC_all D r (List.mem_of_mem_take hr)
    have a59 : ∀ r ∈ (D.map rfC).drop A, r.all (fun v => v.oneCell') = true := fun r hr => rfC_all D r (List.mem_of_mem_drop hr)
    simp (disch := first | assumption | omega | (simp only [szR] <;> omega) | rfl | decide) only [gen0, gen1, gen2, rulesM, rulesU, litR, bolR, Nat.reduceAdd, Nat.reduceLeDiff, numR, memR, valR, heapR, updR, intR, decR, extR, slR, segR, thenR, pnR, Int.reduceToNat, Int.reduceAdd, Int.reduceSub, Int.reduceLT, Int.reduceLE, Nat.reduceSub, Nat.reduceMul, Nat.reduceEqDiff, hp', hcs, hc3]
    refine ⟨⟨?_, ?_, ?_⟩, ⟨?_, ?_⟩, ?_⟩
    · have hW : Ext [] w' (w'.drew.alloc (.cells [].toArray 153)) := by (repeat first | assumption | exact Ext.refl | apply Ext.alloc | apply Ext.drew | (refine Ext.updN ?_ ?_; (focus first | omega | (simp only [szR] <;> omega))) | (refine Ext.updI ?_ ?_; (focus (simp; done))))
      have hb1 : (w'.drew.alloc (.cells [].toArray 153)).heap[w'.heap.size]? = some (.cells [].toArray 153 (0, 0)) := by simp (disch := first | assumption | omega | (simp only [szR] <;> omega) | rfl | decide) only [gen0, gen1, gen2, rulesM, rulesU, litR, bolR, Nat.reduceAdd, Nat.reduceLeDiff, numR, memR, valR, heapR, updR, intR, decR, extR, slR, segR, thenR, pnR, Int.reduceToNat, Int.reduceAdd, Int.reduceSub, Int.reduceLT, Int.reduceLE, Nat.reduceSub, Nat.reduceMul, Nat.reduceEqDiff]
      have hpW := hW.at hp' (by simp)
      refine app70 (base := w'.heap.size) (OwnR.empty hb1 (by omega)) (h52 _ (hR _ (hxt.trans hW (by simp)))) a52 (by simp; omega) hW.size fun v53 w2 h53 a53 => ?_
      have hx2 := a53.ext w' [] (Nat.le_refl _) hW
      have hp2 := hx2.at hp' (by simp)
      simp (disch := first | assumption | omega | (simp only [szR] <;> omega) | rfl | decide) only [gen0, gen1, gen2, rulesM, rulesU, litR, bolR, Nat.reduceAdd, Nat.reduceLeDiff, numR, memR, valR, heapR, updR, intR, decR, extR, slR, segR, thenR, pnR, Int.reduceToNat, Int.reduceAdd, Int.reduceSub, Int.reduceLT, Int.reduceLE, Nat.reduceSub, Nat.reduceMul, Nat.reduceEqDiff, hp2, hcs, hc3]
      have hx3 : Ext [] w2 (w2.alloc (.cells (rfC l).toArray 153)) := by (repeat first | assumption | exact Ext.refl | apply Ext.alloc | apply Ext.drew | (refine Ext.updN ?_ ?_; (focus first | omega | (simp only [szR] <;> omega))) | (refine Ext.updI ?_ ?_; (focus (simp; done))))
      refine tail70 (h53.ext hx3 (by simp)) (RowsAt.one (alloc_at rfl) hc3) (h59 _ (hR _ ((hxt.trans hx2 (by simp)).trans hx3 (by simp)))) hb59 a59 (by simp; omega) (Nat.le_trans hx2.size hx3.size) fun v60 w4 h60 e60 => ?_
      exact hrest v60 w4 h60 (hxw.trans (e60 w' [] (Nat.le_refl _) (hx2.trans hx3 (by simp))) (by simp))
    · have hW : Ext [] w' (w'.drew.alloc (.cells [].toArray 153)) := by (repeat first | assumption | exact Ext.refl | apply Ext.alloc | apply Ext.drew | (refine Ext.updN ?_ ?_; (focus first | omega | (simp only [szR] <;> omega))) | (refine Ext.updI ?_ ?_; (focus (simp; done))))
      have hb1 : (w'.drew.alloc (.cells [].toArray 153)).heap[w'.heap.size]? = some (.cells [].toArray 153 (0, 0)) := by simp (disch := first | assumption | omega | (simp only [szR] <;> omega) | rfl | decide) only [gen0, gen1, gen2, rulesM, rulesU, litR, bolR, Nat.reduceAdd, Nat.reduceLeDiff, numR, memR, valR, heapR, updR, intR, decR, extR, slR, segR, thenR, pnR, Int.reduceToNat, Int.reduceAdd, Int.reduceSub, Int.reduceLT, Int.reduceLE, Nat.reduceSub, Nat.reduceMul, Nat.reduceEqDiff]
      have hpW := hW.at hp' (by simp)
      refine app70 (base := w'.heap.size) (OwnR.empty hb1 (by omega)) (h52 _ (hR _ (hxt.trans hW (by simp)))) a52 (by simp; omega) hW.size fun v53 w2 h53 a53 => ?_
      have hx2 := a53.ext w' [] (Nat.le_refl _) hW
      have hp2 := hx2.at hp' (by simp)
      simp (disch := first | assumption | omega | (simp only [szR] <;> omega) | rfl | decide) only [gen0, gen1, gen2, rulesM, rulesU, litR, bolR, Nat.reduceAdd, Nat.reduceLeDiff, numR, memR, valR, heapR, updR, intR, decR, extR, slR, segR, thenR, pnR, Int.reduceToNat, Int.reduceAdd, Int.reduceSub, Int.reduceLT, Int.reduceLE, Nat.reduceSub, Nat.reduceMul, Nat.reduceEqDiff, hp2, hcs, hc3]
      have hx3 : Ext [] w2 (w2.alloc (.cells (rfC l).toArray 153)) := by (repeat first | assumption | exact Ext.refl | apply Ext.alloc | apply Ext.drew | (refine Ext.updN ?_ ?_; (focus first | omega | (simp only [szR] <;> omega))) | (refine Ext.updI ?_ ?_; (focus (simp; done))))
      refine tail70 (h53.ext hx3 (by simp)) (RowsAt.one (alloc_at rfl) hc3) (h59 _ (hR _ ((hxt.trans hx2 (by simp)).trans hx3 (by simp)))) hb59 a59 (by simp; omega) (Nat.le_trans hx2.size hx3.size) fun v60 w4 h60 e60 => ?_
      exact hrest v60 w4 h60 (hxw.trans (e60 w' [] (Nat.le_refl _) (hx2.trans hx3 (by simp))) (by simp))
    · have hW : Ext [] w' ((w'.drew.alloc (.cells [].toArray 153)).alloc (.cells (rfC l).toArray 153)) := by (repeat first | assumption | exact Ext.refl | apply Ext.alloc | apply Ext.drew | (refine Ext.updN ?_ ?_; (focus first | omega | (simp only [szR] <;> omega))) | (refine Ext.updI ?_ ?_; (focus (simp; done))))
      have hb1 : ((w'.drew.alloc (.cells [].toArray 153)).alloc (.cells (rfC l).toArray 153)).heap[w'.heap.size]? = some (.cells [].toArray 153 (0, 0)) := by simp (disch := first | assumption | omega | (simp only [szR] <;> omega) | rfl | decide) only [gen0, gen1, gen2, rulesM, rulesU, litR, bolR, Nat.reduceAdd, Nat.reduceLeDiff, numR, memR, valR, heapR, updR, intR, decR, extR, slR, segR, thenR, pnR, Int.reduceToNat, Int.reduceAdd, Int.reduceSub, Int.reduceLT, Int.reduceLE, Nat.reduceSub, Nat.reduceMul, Nat.reduceEqDiff]
      have hpW := hW.at hp' (by simp)
      refine app70 (base := w'.heap.size) (OwnR.empty hb1 (by omega)) (h52 _ (hR _ (hxt.trans hW (by simp)))) a52 (by simp; omega) hW.size fun v53 w2 h53 a53 => ?_
      have hx2 := a53.ext w' [] (Nat.le_refl _) hW
      have hp2 := hx2.at hp' (by simp)
      have hq2 := a53.step.at (b := w'.heap.size + 1) (o := .cells (rfC l).toArray 153) (by simp (disch := first | assumption | omega | (simp only [szR] <;> omega) | rfl | decide) only [gen0, gen1, gen2, rulesM, rulesU, litR, bolR, Nat.reduceAdd, Nat.reduceLeDiff, numR, memR, valR, heapR, updR, intR, decR, extR, slR, segR, thenR, pnR, Int.reduceToNat, Int.reduceAdd, Int.reduceSub, Int.reduceLT, Int.reduceLE, Nat.reduceSub, Nat.reduceMul, Nat.reduceEqDiff]) (by simp [blockOf])
      simp (disch := first | assumption | omega | (simp only [szR] <;> omega) | rfl | decide) only [gen0, gen1, gen2, rulesM, rulesU, litR, bolR, Nat.reduceAdd, Nat.reduceLeDiff, numR, memR, valR, heapR, updR, intR, decR, extR, slR, segR, thenR, pnR, Int.reduceToNat, Int.reduceAdd, Int.reduceSub, Int.reduceLT, Int.reduceLE, Nat.reduceSub, Nat.reduceMul, Nat.reduceEqDiff]
      refine tail70 h53 (RowsAt.one hq2 hc3) (h59 _ (hR _ (hxt.trans hx2 (by simp)))) hb59 a59 (by simp; omega) hx2.size fun v60 w4 h60 e60 => ?_
      exact hrest v60 w4 h60 (hxw.trans (e60 w' [] (Nat.le_refl _) hx2) (by simp))
    · have hW : Ext [] w' (w'.drew.alloc (.cells [].toArray 153)) := by (repeat first | assumption | exact Ext.refl | apply Ext.alloc | apply Ext.drew | (refine Ext.updN ?_ ?_; (focus first | omega | (simp only [szR] <;> omega))) | (refine Ext.updI ?_ ?_; (focus (simp; done))))
      have hb1 : (w'.drew.alloc (.cells [].toArray 153)).heap[w'.heap.size]? = some (.cells [].toArray 153 (0, 0)) := by simp (disch := first | assumption | omega | (simp only [szR] <;> omega) | rfl | decide) only [gen0, gen1, gen2, rulesM, rulesU, litR, bolR, Nat.reduceAdd, Nat.reduceLeDiff, numR, memR, valR, heapR, updR, intR, decR, extR, slR, segR, thenR, pnR, Int.reduceToNat, Int.reduceAdd, Int.reduceSub, Int.reduceLT, Int.reduceLE, Nat.reduceSub, Nat.reduceMul, Nat.reduceEqDiff]
      have hpW := hW.at hp' (by simp)
      refine app70 (base := w'.heap.size) (OwnR.empty hb1 (by omega)) (h52 _ (hR _ (hxt.trans hW (by simp)))) a52 (by simp; omega) hW.size fun v53 w2 h53 a53 => ?_
      have hx2 := a53.ext w' [] (Nat.le_refl _) hW
      have hp2 := hx2.at hp' (by simp)
      simp (disch := first | assumption | omega | (simp only [szR] <;> omega) | rfl | decide) only [gen0, gen1, gen2, rulesM, rulesU, litR, bolR, Nat.reduceAdd, Nat.reduceLeDiff, numR, memR, valR, heapR, updR, intR, decR, extR, slR, segR, thenR, pnR, Int.reduceToNat, Int.reduceAdd, Int.reduceSub, Int.reduceLT, Int.reduceLE, Nat.reduceSub, Nat.reduceMul, Nat.reduceEqDiff, hp2, hcs, hc3]
      have hx3 : Ext [] w2 (w2.alloc (.cells (rfC l).toArray 153)) := by (repeat first | assumption | exact Ext.refl | apply Ext.alloc | apply Ext.drew | (refine Ext.updN ?_ ?_; (focus first | omega | (simp only [szR] <;> omega))) | (refine Ext.updI ?_ ?_; (focus (simp; done))))
      refine tail70 (h53.ext hx3 (by simp)) (RowsAt.one (alloc_at rfl) hc3) (h59 _ (hR _ ((hxt.trans hx2 (by simp)).trans hx3 (by simp)))) hb59 a59 (by simp; omega) (Nat.le_trans hx2.size hx3.size) fun v60 w4 h60 e60 => ?_
      exact hrest v60 w4 h60 (hxw.trans (e60 w' [] (Nat.le_refl _) (hx2.trans hx3 (by simp))) (by simp))
    · have hW : Ext [] w' ((w'.drew.alloc (.cells [].toArray 153)).alloc (.cells (rfC l).toArray 153)) := by (repeat first | assumption | exact Ext.refl | apply Ext.alloc | apply Ext.drew | (refine Ext.updN ?_ ?_; (focus first | omega | (simp only [szR] <;> omega))) | (refine Ext.updI ?_ ?_; (focus (simp; done))))
      have hb1 : ((w'.drew.alloc (.cells [].toArray 153)).alloc (.cells (rfC l).toArray 153)).heap[w'.heap.size]? = some (.cells [].toArray 153 (0, 0)) := by simp (disch := first | assumption | omega | (simp only [szR] <;> omega) | rfl | decide) only [gen0, gen1, gen2, rulesM, rulesU, litR, bolR, Nat.reduceAdd, Nat.reduceLeDiff, numR, memR, valR, heapR, updR, intR, decR, extR, slR, segR, thenR, pnR, Int.reduceToNat, Int.reduceAdd, Int.reduceSub, Int.reduceLT, Int.reduceLE, Nat.reduceSub, Nat.reduceMul, Nat.reduceEqDiff]
      have hpW := hW.at hp' (by simp)
      refine app70 (base := w'.heap.size) (OwnR.empty hb1 (by omega)) (h52 _ (hR _ (hxt.trans hW (by simp)))) a52 (by simp; omega) hW.size fun v53 w2 h53 a53 => ?_
      have hx2 := a53.ext w' [] (Nat.le_refl _) hW
      have hp2 := hx2.at hp' (by simp)
      have hq2 := a53.step.at (b := w'.heap.size + 1) (o := .cells (rfC l).toArray 153) (by simp (disch := first | assumption | omega | (simp only [szR] <;> omega) | rfl | decide) only [gen0, gen1, gen2, rulesM, rulesU, litR, bolR, Nat.reduceAdd, Nat.reduceLeDiff, numR, memR, valR, heapR, updR, intR, decR, extR, slR, segR, thenR, pnR, Int.reduceToNat, Int.reduceAdd, Int.reduceSub, Int.reduceLT, Int.reduceLE, Nat.reduceSub, Nat.reduceMul, Nat.reduceEqDiff]) (by simp [blockOf])
      simp (disch := first | assumption | omega | (simp only [szR] <;> omega) | rfl | decide) only [gen0, gen1, gen2, rulesM, rulesU, litR, bolR, Nat.reduceAdd, Nat.reduceLeDiff, numR, memR, valR, heapR, updR, intR, decR, extR, slR, segR, thenR, pnR, Int.reduceToNat, Int.reduceAdd, Int.reduceSub, Int.reduceLT, Int.reduceLE, Nat.reduceSub, Nat.reduceMul, Nat.reduceEqDiff]
      refine tail70 h53 (RowsAt.one hq2 hc3) (h59 _ (hR _ (hxt.trans hx2 (by simp)))) hb59 a59 (by simp; omega) hx2.size fun v60 w4 h60 e60 => ?_
      exact hrest v60 w4 h60 (hxw.trans (e60 w' [] (Nat.le_refl _) hx2) (by simp))
    · have hW : Ext [] w' ((w'.drew.alloc (.cells (rfC l).toArray 153)).alloc (.cells [].toArray 153)) := by (repeat first | assumption | exact Ext.refl | apply Ext.alloc | apply Ext.drew | (refine Ext.updN ?_ ?_; (focus first | omega | (simp only [szR] <;> omega))) | (refine Ext.updI ?_ ?_; (focus (simp; done))))
      have hb1 : ((w'.drew.alloc (.cells (rfC l).toArray 153)).alloc (.cells [].toArray 153)).heap[w'.heap.size + 1]? = some (.cells [].toArray 153 (0, 0)) := by simp (disch := first | assumption | omega | (simp only [szR] <;> omega) | rfl | decide) only [gen0, gen1, gen2, rulesM, rulesU, litR, bolR, Nat.reduceAdd, Nat.reduceLeDiff, numR, memR, valR, heapR, updR, intR, decR, extR, slR, segR, thenR, pnR, Int.reduceToNat, Int.reduceAdd, Int.reduceSub, Int.reduceLT, Int.reduceLE, Nat.reduceSub, Nat.reduceMul, Nat.reduceEqDiff]
      have hpW := hW.at hp' (by simp)
      refine app70 (base := w'.heap.size) (OwnR.empty hb1 (by omega)) (h52 _ (hR _ (hxt.trans hW (by simp)))) a52 (by simp; omega) hW.size fun v53 w2 h53 a53 => ?_
      have hx2 := a53.ext w' [] (Nat.le_refl _) hW
      have hp2 := hx2.at hp' (by simp)
      have hq2 := a53.step.at (b := w'.heap.size) (o := .cells (rfC l).toArray 153) (by simp (disch := first | assumption | omega | (simp only [szR] <;> omega) | rfl | decide) only [gen0, gen1, gen2, rulesM, rulesU, litR, bolR, Nat.reduceAdd, Nat.reduceLeDiff, numR, memR, valR, heapR, updR, intR, decR, extR, slR, segR, thenR, pnR, Int.reduceToNat, Int.reduceAdd, Int.reduceSub, Int.reduceLT, Int.reduceLE, Nat.reduceSub, Nat.reduceMul, Nat.reduceEqDiff]) (by simp [blockOf])
      simp (disch := first | assumption | omega | (simp only [szR] <;> omega) | rfl | decide) only [gen0, gen1, gen2, rulesM, rulesU, litR, bolR, Nat.reduceAdd, Nat.reduceLeDiff, numR, memR, valR, heapR, updR, intR, decR, extR, slR, segR, thenR, pnR, Int.reduceToNat, Int.reduceAdd, Int.reduceSub, Int.reduceLT, Int.reduceLE, Nat.reduceSub, Nat.reduceMul, Nat.reduceEqDiff]
      refine tail70 h53 (RowsAt.one hq2 hc3) (h59 _ (hR _ (hxt.trans hx2 (by simp)))) hb59 a59 (by simp; omega) hx2.size fun v60 w4 h60 e60 => ?_
      exact hrest v60 w4 h60 (hxw.trans (e60 w' [] (Nat.le_refl _) hx2) (by simp))
end Go.Proofs.Ytbigiabcgplkgaa
