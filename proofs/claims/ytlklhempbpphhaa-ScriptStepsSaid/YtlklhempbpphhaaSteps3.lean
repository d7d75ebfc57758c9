/- Any bytes are the document's steps, and back: the law; conditions: those of each theorem. -/
import Derived.Test.YtlklhempbpphhaaSteps2
namespace Go.Proofs.Ytlklhempbpphhaa
open Go.Fx
set_option maxRecDepth 100000
set_option linter.unusedSimpArgs false
set_option linter.unusedVariables false
theorem back_law (l : List St) (h : ∀ s ∈ l, Fits s) : stepsOf (bytesOf l) = l := by
  apply List.ext_getElem?
  intro j
  have hl := bytesOf_length l
  by_cases hj : j < l.length
  · rw [stepsOf_get (by omega)]
    have key : ∀ (l : List St) (j : Nat) (hj : j < l.length), (bytesOf l)[3 * j]? = some l[j].k ∧ (bytesOf l)[3 * j + 1]? = some l[j].a ∧ (bytesOf l)[3 * j + 2]? = some l[j].b := by
      intro l
      induction l with
      | nil => intro j hj; simp at hj
      | cons x l ih =>
        intro j hj
        cases j with
        | zero => exact ⟨rfl, rfl, rfl⟩
        | succ j =>
          have := ih j (by simpa using hj)
          have e : ∀ i, (bytesOf (x :: l))[i + 3]? = (bytesOf l)[i]? := fun i => rfl
          rw [show 3 * (j + 1) = 3 * j + 3 by omega, show 3 * j + 3 + 1 = (3 * j + 1) + 3 by omega, show 3 * j + 3 + 2 = (3 * j + 2) + 3 by omega, e, e, e]
          simpa using this
    obtain ⟨k1, k2, k3⟩ := key l j hj
    rw [List.getElem?_eq_getElem (by omega)] at k1 k2 k3
    simp only [Option.some.injEq] at k1 k2 k3
    rw [k1, k2, k3]
    have := (h l[j] (List.getElem_mem hj)).1.2
    simp [stepOf, hj, show ¬ 9 < l[j].k by omega]
  · rw [List.getElem?_eq_none (by rw [stepsOf_length]; omega), List.getElem?_eq_none (by omega)]
def fitsB (l : List St) : Bool := l.all fun s => decide (Fits s)
theorem fitsB_iff (l : List St) : fitsB l = true ↔ ∀ s ∈ l, Fits s := by simp [fitsB]
theorem Bytes_spec2 {w : World} {t : Value} {l : List St} (ht : RowsAt w t 3 (l.map stC)) (hl : l.length ≤ 1000) {K : Value → World → Prop}
    (hK : ∀ v w', ((∀ s ∈ l, Fits s) → OwnR w' w.heap.size 5 1 v ((bytesOf l).map byC)) → (¬ (∀ s ∈ l, Fits s) → v = .slice none 0 0) → Ext [] w w' → K (.tuple #[v, .bool (fitsB l)]) w') : callsK Try.prog 18 #[t] w K := by
  refine Bytes_spec ht hl (fun h v w' ho hx => ?_) (fun h w' hx => ?_)
  · have := hK v w' (fun _ => ho) (fun h' => absurd h h') hx
    rwa [(fitsB_iff l).2 h] at this
  · have := hK _ w' (fun h' => absurd h' h) (fun _ => rfl) hx
    rwa [Bool.eq_false_iff.2 fun h' => h ((fitsB_iff l).1 h')] at this
theorem steps_spec {w : World} {t0 t1 : Value} {bs : List Int} {l : List St} {most : Int} (hc0 : t0.cells = [t0].toArray) (ht0 : RowsAt w t0 1 (bs.map byC)) (hbs : ∀ x ∈ bs, 0 ≤ x ∧ x < 256) (ht1 : RowsAt w t1 3 (l.map stC)) {K : Value → World → Prop}
    (hK : ∀ w', Ext [] w w' → K (.bool true) w') : callsK Try.prog 4 #[t0, t1, .int .i64 most] w K := by
  apply F4_ok
  unfold F4
  have hl0 := ht0.lenR (ty := 3) Try.underlying31
  have hl1 := ht1.lenR (ty := 3) Try.underlying32
  rw [List.length_map] at hl0 hl1
  by_cases hb : 3000 < bs.length
  · simp (disch := first | assumption | omega | (simp only [szR] <;> omega) | rfl | decide) only [gen0, gen1, gen2, rulesS, litR, bolR, Nat.reduceAdd, Nat.reduceLeDiff, numR, memR, valR, heapR, updR, intR, decR, extR, slR, segR, thenR, Int.reduceToNat, Int.reduceAdd, Int.reduceSub, Int.reduceLT, Int.reduceLE, Nat.reduceSub, Nat.reduceMul, Nat.reduceEqDiff, joinBR, hl0, hl1]
    exact hK _ (by (repeat first | assumption | exact Ext.refl | apply Ext.alloc | apply Ext.drew | (refine Ext.updN ?_ ?_; (focus first | omega | (simp only [szR] <;> omega))) | (refine Ext.updI ?_ ?_; (focus (simp; done)))))
  by_cases hll : 1000 < l.length
  · simp (disch := first | assumption | omega | (simp only [szR] <;> omega) | rfl | decide) only [gen0, gen1, gen2, rulesS, litR, bolR, Nat.reduceAdd, Nat.reduceLeDiff, numR, memR, valR, heapR, updR, intR, decR, extR, slR, segR, thenR, Int.reduceToNat, Int.reduceAdd, Int.reduceSub, Int.reduceLT, Int.reduceLE, Nat.reduceSub, Nat.reduceMul, Nat.reduceEqDiff, joinBR, hl0, hl1]
    exact hK _ (by (repeat first | assumption | exact Ext.refl | apply Ext.alloc | apply Ext.drew | (refine Ext.updN ?_ ?_; (focus first | omega | (simp only [szR] <;> omega))) | (refine Ext.updI ?_ ?_; (focus (simp; done)))))
  simp (disch := first | assumption | omega | (simp only [szR] <;> omega) | rfl | decide) only [gen0, gen1, gen2, rulesS, litR, bolR, Nat.reduceAdd, Nat.reduceLeDiff, numR, memR, valR, heapR, updR, intR, decR, extR, slR, segR, thenR, Int.reduceToNat, Int.reduceAdd, Int.reduceSub, Int.reduceLT, Int.reduceLE, Nat.reduceSub, Nat.reduceMul, Nat.reduceEqDiff, joinBR, hl0, hl1]
  have hx0 : Ext [] w (w.alloc (.cells [.int .i64 most].toArray 3)) := by (repeat first | assumption | exact Ext.refl | apply Ext.alloc | apply Ext.drew | (refine Ext.updN ?_ ?_; (focus first | omega | (simp only [szR] <;> omega))) | (refine Ext.updI ?_ ?_; (focus (simp; done))))
  refine rSteps_spec (ht0.ext hx0 (by simp)) hbs (by omega) fun wv w1 hwv hx1 => ?_
  have hm1 := hx1.at (b := w.heap.size) (o := .cells [.int .i64 most].toArray 3) (by simp (disch := first | assumption | omega | (simp only [szR] <;> omega) | rfl | decide) only [gen0, gen1, gen2, rulesS, litR, bolR, Nat.reduceAdd, Nat.reduceLeDiff, numR, memR, valR, heapR, updR, intR, decR, extR, slR, segR, thenR, Int.reduceToNat, Int.reduceAdd, Int.reduceSub, Int.reduceLT, Int.reduceLE, Nat.reduceSub, Nat.reduceMul, Nat.reduceEqDiff]) (by simp)
  have hx2 := hx0.trans hx1 (by simp)
  have hwr := hwv.rows
  have hwb := hwv.blt
  obtain ⟨wa, wc, hwe⟩ := hwr.len
  have hw1 : wv.cells = [wv].toArray := by rw [hwe]; rfl
  have hwo : wv.oneCell' = true := by rw [hwe]; rfl
  have hsl := stepsOf_length bs
  have hw1s := lt_of_at hm1
  clear hwv
  simp (disch := first | assumption | omega | (simp only [szR] <;> omega) | rfl | decide) only [gen0, gen1, gen2, rulesS, litR, bolR, Nat.reduceAdd, Nat.reduceLeDiff, numR, memR, valR, heapR, updR, intR, decR, extR, slR, segR, thenR, Int.reduceToNat, Int.reduceAdd, Int.reduceSub, Int.reduceLT, Int.reduceLE, Nat.reduceSub, Nat.reduceMul, Nat.reduceEqDiff, joinBR, hw1, hwo]
  refine Steps_spec hc0 ?_
  simp (disch := first | assumption | omega | (simp only [szR] <;> omega) | rfl | decide) only [gen0, gen1, gen2, rulesS, litR, bolR, Nat.reduceAdd, Nat.reduceLeDiff, numR, memR, valR, heapR, updR, intR, decR, extR, slR, segR, thenR, Int.reduceToNat, Int.reduceAdd, Int.reduceSub, Int.reduceLT, Int.reduceLE, Nat.reduceSub, Nat.reduceMul, Nat.reduceEqDiff, joinBR]
  generalize hW0 : World.upd (World.upd _ _ _) _ _ = W0
  have hA7 : W0.heap[w1.heap.size]? = some (.cells [wv].toArray 33 (0, 0)) := by rw [← hW0]; simp (disch := first | assumption | omega | (simp only [szR] <;> omega) | rfl | decide) only [gen0, gen1, gen2, rulesS, litR, bolR, Nat.reduceAdd, Nat.reduceLeDiff, numR, memR, valR, heapR, updR, intR, decR, extR, slR, segR, thenR, Int.reduceToNat, Int.reduceAdd, Int.reduceSub, Int.reduceLT, Int.reduceLE, Nat.reduceSub, Nat.reduceMul, Nat.reduceEqDiff]
  have hAp : W0.heap[w1.heap.size + 1]? = some (.cells [t0].toArray 31 (0, 0)) := by rw [← hW0]; simp (disch := first | assumption | omega | (simp only [szR] <;> omega) | rfl | decide) only [gen0, gen1, gen2, rulesS, litR, bolR, Nat.reduceAdd, Nat.reduceLeDiff, numR, memR, valR, heapR, updR, intR, decR, extR, slR, segR, thenR, Int.reduceToNat, Int.reduceAdd, Int.reduceSub, Int.reduceLT, Int.reduceLE, Nat.reduceSub, Nat.reduceMul, Nat.reduceEqDiff]
  have hA9 : W0.heap[w1.heap.size + 1 + 1]? = some (.cells [.int .i64 0].toArray 3 (0, 0)) := by rw [← hW0]; simp (disch := first | assumption | omega | (simp only [szR] <;> omega) | rfl | decide) only [gen0, gen1, gen2, rulesS, litR, bolR, Nat.reduceAdd, Nat.reduceLeDiff, numR, memR, valR, heapR, updR, intR, decR, extR, slR, segR, thenR, Int.reduceToNat, Int.reduceAdd, Int.reduceSub, Int.reduceLT, Int.reduceLE, Nat.reduceSub, Nat.reduceMul, Nat.reduceEqDiff]
  have hA10 : W0.heap[w1.heap.size + 1 + 1 + 1]? = some (.cells [.bool true].toArray 4 (0, 0)) := by rw [← hW0]; simp (disch := first | assumption | omega | (simp only [szR] <;> omega) | rfl | decide) only [gen0, gen1, gen2, rulesS, litR, bolR, Nat.reduceAdd, Nat.reduceLeDiff, numR, memR, valR, heapR, updR, intR, decR, extR, slR, segR, thenR, Int.reduceToNat, Int.reduceAdd, Int.reduceSub, Int.reduceLT, Int.reduceLE, Nat.reduceSub, Nat.reduceMul, Nat.reduceEqDiff]
  have hx3 : Ext [] w1 W0 := by rw [← hW0]; (repeat first | assumption | exact Ext.refl | apply Ext.alloc | apply Ext.drew | (refine Ext.updN ?_ ?_; (focus first | omega | (simp only [szR] <;> omega))) | (refine Ext.updI ?_ ?_; (focus (simp; done))))
  clear hW0
  let I : Nat → World → Prop := fun k w' => w'.heap[w1.heap.size + 1 + 1]? = some (.cells [.int .i64 k].toArray 3 (0, 0)) ∧ w'.heap[w1.heap.size + 1 + 1 + 1]? = some (.cells [.bool true].toArray 4 (0, 0)) ∧ w'.heap[w1.heap.size]? = some (.cells [wv].toArray 33 (0, 0)) ∧ w'.heap[w1.heap.size + 1]? = some (.cells [t0].toArray 31 (0, 0)) ∧ Ext [] w1 w'
  refine iter_spec (bs := bs) (S := [w1.heap.size + 1 + 1 + 1, w1.heap.size + 1 + 1]) (c := fun _ => true) (I := I) hAp ((ht0.ext hx2 (by simp)).ext hx3 (by simp)) hbs (by omega) ?_ ⟨hA9, hA10, hA7, hAp, hx3⟩ ?_ ?_ ?_
  · intro h0 b hb hm
    have := ht0.blt (by simpa using h0) b hb
    have := hx2.size
    simp only [List.mem_cons, List.not_mem_nil, or_false] at hm
    omega
  · rintro k w2 w3 ⟨h1, h2, h3, h4, h5⟩ hx
    exact ⟨hx.at h1 (by simp), hx.at h2 (by simp), hx.at h3 (by simp), hx.at h4 (by simp), h5.trans hx (by simp)⟩
  · rintro k x w2 hx ⟨h1, h2, h3, h4, h5⟩ hxt K hK
    simp (disch := first | assumption | omega | (simp only [szR] <;> omega) | rfl | decide) only [gen0, gen1, gen2, rulesS, litR, bolR, Nat.reduceAdd, Nat.reduceLeDiff, numR, memR, valR, heapR, updR, intR, decR, extR, slR, segR, thenR, Int.reduceToNat, Int.reduceAdd, Int.reduceSub, Int.reduceLT, Int.reduceLE, Nat.reduceSub, Nat.reduceMul, Nat.reduceEqDiff]
    refine c16_spec h2 h1 h3 (by omega) (hwr.ext h5 (by simp)) hx (by omega) fun w3 g1 g2 g3 => ?_
    exact hK w3 ⟨g2, g1, g3.at h3 (by simp <;> omega), g3.at h4 (by simp <;> omega), h5.trans g3 (by simp <;> omega)⟩ g3
  rintro k w2 hk ⟨h1, h2, h3, h4, h5⟩ hxt hd
  have hkn : k = bs.length / 3 := by
    rcases hd with ⟨h, -⟩ | ⟨-, h, -⟩
    · exact h
    · cases h
  clear hd hxt
  subst hkn
  simp (disch := first | assumption | omega | (simp only [szR] <;> omega) | rfl | decide) only [gen0, gen1, gen2, rulesS, litR, bolR, Nat.reduceAdd, Nat.reduceLeDiff, numR, memR, valR, heapR, updR, intR, decR, extR, slR, segR, thenR, Int.reduceToNat, Int.reduceAdd, Int.reduceSub, Int.reduceLT, Int.reduceLE, Nat.reduceSub, Nat.reduceMul, Nat.reduceEqDiff, joinBR]
  generalize hW2 : w2.alloc (.cells [.int .i64 0].toArray 3) = W2
  have hw2s := lt_of_at h2
  have hB11 : W2.heap[w2.heap.size]? = some (.cells [.int .i64 0].toArray 3 (0, 0)) := by rw [← hW2]; simp (disch := first | assumption | omega | (simp only [szR] <;> omega) | rfl | decide) only [gen0, gen1, gen2, rulesS, litR, bolR, Nat.reduceAdd, Nat.reduceLeDiff, numR, memR, valR, heapR, updR, intR, decR, extR, slR, segR, thenR, Int.reduceToNat, Int.reduceAdd, Int.reduceSub, Int.reduceLT, Int.reduceLE, Nat.reduceSub, Nat.reduceMul, Nat.reduceEqDiff]
  have hx6 : Ext [] w2 W2 := by rw [← hW2]; (repeat first | assumption | exact Ext.refl | apply Ext.alloc | apply Ext.drew | (refine Ext.updN ?_ ?_; (focus first | omega | (simp only [szR] <;> omega))) | (refine Ext.updI ?_ ?_; (focus (simp; done))))
  have hx16 := h5.trans hx6 (by simp)
  clear hW2
  let I2 : Nat → World → Prop := fun k w' => w'.heap[w2.heap.size]? = some (.cells [.int .i64 k].toArray 3 (0, 0)) ∧ Ext [] w2 w' ∧ Ext [] w1 w'
  refine iter_spec (bs := bs) (S := [w2.heap.size]) (c := fun k => decide (((k + 1 : Nat) : Int) ≤ most % 8)) (I := I2) (hx6.at h4 (by simp)) ((ht0.ext hx2 (by simp)).ext hx16 (by simp)) hbs (by omega) ?_ ⟨hB11, hx6, hx16⟩ ?_ ?_ ?_
  · intro h0 b hb hm
    have := ht0.blt (by simpa using h0) b hb
    have := hx2.size
    simp only [List.mem_cons, List.not_mem_nil, or_false] at hm
    omega
  · rintro k w3 w4 ⟨g1, g2, g3⟩ hx
    exact ⟨hx.at g1 (by simp), g2.trans hx (by simp), g3.trans hx (by simp)⟩
  · rintro k x w3 hx ⟨g1, g2, g3⟩ hxt K hK
    have hk := (List.getElem?_eq_some_iff.1 hx).1
    simp (disch := first | assumption | omega | (simp only [szR] <;> omega) | rfl | decide) only [gen0, gen1, gen2, rulesS, litR, bolR, Nat.reduceAdd, Nat.reduceLeDiff, numR, memR, valR, heapR, updR, intR, decR, extR, slR, segR, thenR, Int.reduceToNat, Int.reduceAdd, Int.reduceSub, Int.reduceLT, Int.reduceLE, Nat.reduceSub, Nat.reduceMul, Nat.reduceEqDiff]
    refine c17_spec g1 (g3.at hm1 (by simp)) (by omega) (by omega) fun w4 k1 k2 => ?_
    exact hK w4 ⟨k1, g2.trans k2 (by simp <;> omega), g3.trans k2 (by simp <;> omega)⟩ k2
  rintro k w3 hk3 ⟨g1, g2, g3⟩ hxt hd
  have hmod : 0 ≤ most % 8 ∧ most % 8 < 8 := by omega
  have hkm : min ((bs.length / 3 : Nat) : Int) (most % 8 + 1) = k := by
    rcases hd with ⟨h, hall⟩ | ⟨h0, h, hall⟩
    · subst h
      rcases Nat.eq_zero_or_pos (bs.length / 3) with hz | hz
      · rw [hz]; omega
      · have := of_decide_eq_true (hall (bs.length / 3 - 1) (by omega))
        omega
    · have h1 := of_decide_eq_false h
      rcases Nat.lt_or_ge 1 k with h2 | h2
      · have := of_decide_eq_true (hall (k - 2) (by omega))
        omega
      · omega
  have g9 := g2.at h1 (by simp)
  have g10 := g2.at h2 (by simp)
  have g7 := g2.at h3 (by simp)
  have hm3 := g3.at hm1 (by simp)
  clear hd hxt hB11 h1 h2 h3 h4 I I2 hA7 hAp hA9 hA10
  have hx23 := hx2.trans g3 (by simp)
  have hmask : bitI .and .i64 most 7 = most % 8 := and_mask (k := .i64) (n := 3) (by decide)
  have hlw := hwr.lenR (ty := 3) Try.underlying33
  rw [List.length_map, hsl] at hlw
  have ht13 := ht1.ext hx23 (by simp)
  simp (disch := first | assumption | omega | (simp only [szR] <;> omega) | rfl | decide) only [gen0, gen1, gen2, rulesS, litR, bolR, Nat.reduceAdd, Nat.reduceLeDiff, numR, memR, valR, heapR, updR, intR, decR, extR, slR, segR, thenR, Int.reduceToNat, Int.reduceAdd, Int.reduceSub, Int.reduceLT, Int.reduceLE, Nat.reduceSub, Nat.reduceMul, Nat.reduceEqDiff, joinBR]
  refine Bytes_spec2 ht13 (by omega) fun v41 w4 ho1 ho2 hx4 => ?_
  simp (disch := first | assumption | omega | (simp only [szR] <;> omega) | rfl | decide) only [gen0, gen1, gen2, rulesS, litR, bolR, Nat.reduceAdd, Nat.reduceLeDiff, numR, memR, valR, heapR, updR, intR, decR, extR, slR, segR, thenR, Int.reduceToNat, Int.reduceAdd, Int.reduceSub, Int.reduceLT, Int.reduceLE, Nat.reduceSub, Nat.reduceMul, Nat.reduceEqDiff, joinBR]
  refine loopT.intro (fun st w' => ∃ (j : Nat) (z : Int), j ≤ l.length ∧ st = [.bool (fitsB (l.take j)), .int .i64 z] ∧ z = j ∧ w' = w4)
    (fun st _ => match st with
      | [_, .int _ z] => l.length - z.toNat
      | _ => 0) ⟨0, 0, Nat.zero_le _, rfl, rfl, rfl⟩ ?_
  rintro st w' ⟨j, z, hj, rfl, rfl, rfl⟩ _
  have ht14 := ht13.ext hx4 (by simp)
  by_cases hjl : j < l.length
  · obtain ⟨b0, o0, l0, E0, f0, i0, m0, n0, q0, -, -, gg⟩ := ht14.ixR Try.underlying32 Try.sizeOf39 (r := stC l[j]) (k := j) (by simp [hjl])
    have htk : l.take (j + 1) = l.take j ++ [l[j]] := List.take_succ_eq_append_getElem hjl
    have hdec : fitsB (l.take (j + 1)) = (fitsB (l.take j) && decide (Fits l[j])) := by
      simp only [fitsB, htk, List.all_append, List.all_cons, List.all_nil, Bool.and_true]
    generalize l[j] = x at gg hdec
    have e0 : l0[o0]? = some (.int .i64 x.k) := gg o0 0 rfl (by omega)
    have e1 : l0[o0 + 1]? = some (.int .i64 x.a) := gg _ 1 rfl (by omega)
    have e2 : l0[o0 + 2]? = some (.int .i64 x.b) := gg _ 2 rfl (by omega)
    have hgo : ∀ b : Bool, b = fitsB (l.take (j + 1)) → (∃ (j' : Nat) (z : Int), j' ≤ l.length ∧ [Value.bool b, .int .i64 ((j : Int) + 1)] = [.bool (fitsB (l.take j')), .int .i64 z] ∧ z = j' ∧ True) := by
      rintro b rfl
      exact ⟨j + 1, (j : Int) + 1, by omega, rfl, by omega, trivial⟩
    cases hd : fitsB (l.take j) with
    | false =>
      rw [hd, Bool.false_and] at hdec
      simp (disch := first | assumption | omega | (simp only [szR] <;> omega) | rfl | decide) only [gen0, gen1, gen2, rulesS, litR, bolR, Nat.reduceAdd, Nat.reduceLeDiff, numR, memR, valR, heapR, updR, intR, decR, extR, slR, segR, thenR, Int.reduceToNat, Int.reduceAdd, Int.reduceSub, Int.reduceLT, Int.reduceLE, Nat.reduceSub, Nat.reduceMul, Nat.reduceEqDiff, joinBR, hl1]
      exact ⟨hgo false hdec.symm, by simp <;> omega⟩
    | true =>
      rw [hd, Bool.true_and] at hdec
      by_cases c1 : 0 ≤ x.k
      · by_cases c2 : x.k ≤ 9
        · by_cases c3 : 0 ≤ x.a
          · by_cases c4 : x.a ≤ 255
            · by_cases c5 : 0 ≤ x.b
              · by_cases c6 : x.b ≤ 255
                · simp (disch := first | assumption | omega | (simp only [szR] <;> omega) | rfl | decide) only [gen0, gen1, gen2, rulesS, litR, bolR, Nat.reduceAdd, Nat.reduceLeDiff, numR, memR, valR, heapR, updR, intR, decR, extR, slR, segR, thenR, Int.reduceToNat, Int.reduceAdd, Int.reduceSub, Int.reduceLT, Int.reduceLE, Nat.reduceSub, Nat.reduceMul, Nat.reduceEqDiff, joinBR, hl1, i0, m0, e0, e1, e2]
                  exact ⟨hgo true (hdec.trans (decide_eq_true ⟨⟨c1, c2⟩, ⟨c3, c4⟩, ⟨c5, c6⟩⟩)).symm, by simp <;> omega⟩
                · simp (disch := first | assumption | omega | (simp only [szR] <;> omega) | rfl | decide) only [gen0, gen1, gen2, rulesS, litR, bolR, Nat.reduceAdd, Nat.reduceLeDiff, numR, memR, valR, heapR, updR, intR, decR, extR, slR, segR, thenR, Int.reduceToNat, Int.reduceAdd, Int.reduceSub, Int.reduceLT, Int.reduceLE, Nat.reduceSub, Nat.reduceMul, Nat.reduceEqDiff, joinBR, hl1, i0, m0, e0, e1, e2]
                  exact ⟨hgo false (hdec.trans (decide_eq_false fun h => c6 h.2.2.2)).symm, by simp <;> omega⟩
              · simp (disch := first | assumption | omega | (simp only [szR] <;> omega) | rfl | decide) only [gen0, gen1, gen2, rulesS, litR, bolR, Nat.reduceAdd, Nat.reduceLeDiff, numR, memR, valR, heapR, updR, intR, decR, extR, slR, segR, thenR, Int.reduceToNat, Int.reduceAdd, Int.reduceSub, Int.reduceLT, Int.reduceLE, Nat.reduceSub, Nat.reduceMul, Nat.reduceEqDiff, joinBR, hl1, i0, m0, e0, e1, e2]
                exact ⟨hgo false (hdec.trans (decide_eq_false fun h => c5 h.2.2.1)).symm, by simp <;> omega⟩
            · simp (disch := first | assumption | omega | (simp only [szR] <;> omega) | rfl | decide) only [gen0, gen1, gen2, rulesS, litR, bolR, Nat.reduceAdd, Nat.reduceLeDiff, numR, memR, valR, heapR, updR, intR, decR, extR, slR, segR, thenR, Int.reduceToNat, Int.reduceAdd, Int.reduceSub, Int.reduceLT, Int.reduceLE, Nat.reduceSub, Nat.reduceMul, Nat.reduceEqDiff, joinBR, hl1, i0, m0, e0, e1, e2]
              exact ⟨hgo false (hdec.trans (decide_eq_false fun h => c4 h.2.1.2)).symm, by simp <;> omega⟩
          · simp (disch := first | assumption | omega | (simp only [szR] <;> omega) | rfl | decide) only [gen0, gen1, gen2, rulesS, litR, bolR, Nat.reduceAdd, Nat.reduceLeDiff, numR, memR, valR, heapR, updR, intR, decR, extR, slR, segR, thenR, Int.reduceToNat, Int.reduceAdd, Int.reduceSub, Int.reduceLT, Int.reduceLE, Nat.reduceSub, Nat.reduceMul, Nat.reduceEqDiff, joinBR, hl1, i0, m0, e0, e1, e2]
            exact ⟨hgo false (hdec.trans (decide_eq_false fun h => c3 h.2.1.1)).symm, by simp <;> omega⟩
        · simp (disch := first | assumption | omega | (simp only [szR] <;> omega) | rfl | decide) only [gen0, gen1, gen2, rulesS, litR, bolR, Nat.reduceAdd, Nat.reduceLeDiff, numR, memR, valR, heapR, updR, intR, decR, extR, slR, segR, thenR, Int.reduceToNat, Int.reduceAdd, Int.reduceSub, Int.reduceLT, Int.reduceLE, Nat.reduceSub, Nat.reduceMul, Nat.reduceEqDiff, joinBR, hl1, i0, m0, e0, e1, e2]
          exact ⟨hgo false (hdec.trans (decide_eq_false fun h => c2 h.1.2)).symm, by simp <;> omega⟩
      · simp (disch := first | assumption | omega | (simp only [szR] <;> omega) | rfl | decide) only [gen0, gen1, gen2, rulesS, litR, bolR, Nat.reduceAdd, Nat.reduceLeDiff, numR, memR, valR, heapR, updR, intR, decR, extR, slR, segR, thenR, Int.reduceToNat, Int.reduceAdd, Int.reduceSub, Int.reduceLT, Int.reduceLE, Nat.reduceSub, Nat.reduceMul, Nat.reduceEqDiff, joinBR, hl1, i0, m0, e0, e1, e2]
        exact ⟨hgo false (hdec.trans (decide_eq_false fun h => c1 h.1.1)).symm, by simp <;> omega⟩
  · obtain rfl : j = l.length := by omega
    rw [List.take_length]
    have k9 := hx4.at g9 (by simp)
    have k10 := hx4.at g10 (by simp)
    have k7 := hx4.at g7 (by simp)
    have k11 := hx4.at g1 (by simp)
    have k5 := hx4.at hm3 (by simp)
    have hxw := hx23.trans hx4 (by simp)
    by_cases hF : ∀ s ∈ l, Fits s
    · rw [(fitsB_iff l).2 hF]
      have ho := ho1 hF
      have hl41 := ho.rows.lenR (ty := 3) Try.underlying31
      rw [List.length_map, bytesOf_length] at hl41
      simp (disch := first | assumption | omega | (simp only [szR] <;> omega) | rfl | decide) only [gen0, gen1, gen2, rulesS, litR, bolR, Nat.reduceAdd, Nat.reduceLeDiff, numR, memR, valR, heapR, updR, intR, decR, extR, slR, segR, thenR, Int.reduceToNat, Int.reduceAdd, Int.reduceSub, Int.reduceLT, Int.reduceLE, Nat.reduceSub, Nat.reduceMul, Nat.reduceEqDiff, joinBR, hl1, k10, k9, k7, hlw, k11, k5, hmask, mnR, hkm, hl41]
      refine rSteps_spec ho.rows (fun x hx => ?_) (by rw [bytesOf_length]; omega) fun v141 w5 ho5 hx5 => ?_
      · obtain ⟨s, hs, hxs⟩ := List.mem_flatMap.1 hx
        have := hF s hs
        unfold Fits at this
        simp only [List.mem_cons, List.not_mem_nil, or_false] at hxs
        omega
      · rw [back_law l hF] at ho5
        have hr5 := ho5.rows
        have ht15 := ht14.ext hx5 (by simp)
        refine loopT.intro (fun st w6 => ∃ (j : Nat) (z : Int), j ≤ l.length ∧ st = [.int .i64 z] ∧ z = j ∧ Ext [] w5 w6)
          (fun st _ => match st with
            | [.int _ z] => l.length - z.toNat
            | _ => 0) ⟨0, 0, Nat.zero_le _, rfl, rfl, Ext.refl⟩ ?_
        rintro st w6 ⟨j, z, hj, rfl, rfl, hx6⟩ _
        by_cases hjl : j < l.length
        · obtain ⟨b0, o0, l0, E0, f0, i0, m0, n0, q0, -, gg, -⟩ := (ht15.ext hx6 (by simp)).ixR Try.underlying32 Try.sizeOf39 (r := stC l[j]) (k := j) (by simp [hjl])
          obtain ⟨b1, o1, l1, E1, f1, i1, m1, n1, q1, -, gg1, -⟩ := (hr5.ext hx6 (by simp)).ixR Try.underlying33 Try.sizeOf40 (r := stC l[j]) (k := j) (by simp [hjl])
          simp only [stC] at gg gg1
          simp (disch := first | assumption | omega | (simp only [szR] <;> omega) | rfl | decide) only [gen0, gen1, gen2, rulesS, litR, bolR, Nat.reduceAdd, Nat.reduceLeDiff, numR, memR, valR, heapR, updR, intR, decR, extR, slR, segR, thenR, Int.reduceToNat, Int.reduceAdd, Int.reduceSub, Int.reduceLT, Int.reduceLE, Nat.reduceSub, Nat.reduceMul, Nat.reduceEqDiff, joinBR, hl1, i0, m0, gg, i1, m1, gg1]
          exact ⟨⟨j + 1, (j : Int) + 1, by omega, rfl, by omega, hx6.drew⟩, by simp <;> omega⟩
        · simp (disch := first | assumption | omega | (simp only [szR] <;> omega) | rfl | decide) only [gen0, gen1, gen2, rulesS, litR, bolR, Nat.reduceAdd, Nat.reduceLeDiff, numR, memR, valR, heapR, updR, intR, decR, extR, slR, segR, thenR, Int.reduceToNat, Int.reduceAdd, Int.reduceSub, Int.reduceLT, Int.reduceLE, Nat.reduceSub, Nat.reduceMul, Nat.reduceEqDiff, joinBR, hl1]
          exact one19_spec fun w7 hx7 => hK _ (((hxw.trans hx5 (by simp)).trans hx6 (by simp)).trans hx7 (by simp))
    · rw [Bool.eq_false_iff.2 fun h' => hF ((fitsB_iff l).1 h'), ho2 hF]
      simp (disch := first | assumption | omega | (simp only [szR] <;> omega) | rfl | decide) only [gen0, gen1, gen2, rulesS, litR, bolR, Nat.reduceAdd, Nat.reduceLeDiff, numR, memR, valR, heapR, updR, intR, decR, extR, slR, segR, thenR, Int.reduceToNat, Int.reduceAdd, Int.reduceSub, Int.reduceLT, Int.reduceLE, Nat.reduceSub, Nat.reduceMul, Nat.reduceEqDiff, joinBR, hl1, k10, k9, k7, hlw, k11, k5, hmask, mnR, hkm]
      refine rSteps_spec (bs := []) (OwnR.nil.rows (base := 0) (e := 5)) (by simp) (by simp) fun v141 w5 ho5 hx5 => ?_
      refine loopT.intro (fun st w6 => st = [.int .i64 0] ∧ w6 = w5) (fun st _ => 0) ⟨rfl, rfl⟩ ?_
      rintro st w6 ⟨rfl, rfl⟩ _
      simp (disch := first | assumption | omega | (simp only [szR] <;> omega) | rfl | decide) only [gen0, gen1, gen2, rulesS, litR, bolR, Nat.reduceAdd, Nat.reduceLeDiff, numR, memR, valR, heapR, updR, intR, decR, extR, slR, segR, thenR, Int.reduceToNat, Int.reduceAdd, Int.reduceSub, Int.reduceLT, Int.reduceLE, Nat.reduceSub, Nat.reduceMul, Nat.reduceEqDiff, joinBR, hl1]
      exact one19_spec fun w7 hx7 => hK _ ((hxw.trans hx5 (by simp)).trans hx7 (by simp))
/-! ### the arguments -/
open Go.ChangeShapes Go.WideShapes
theorem arg31 {H : Type} {enc : TypeId × Value → H} {w : World} {base b0 : Nat} {spare : Nat → Bool} {held : Bool} {r : Reach} {v : Value} {d : DataW H} {ps : List MemPlace} (hval : Value.okWide Try.prog w r b0 31 v) (h : DataW.Trod enc Try.prog w base spare held 31 v d ps) :
    ∃ bs : List Int, RowsAt w v 1 (bs.map byC) ∧ ∀ x ∈ bs, 0 ≤ x ∧ x < 256 := by
  obtain ⟨fuel, x, hx⟩ := slice_trod Try.underlying31 hval h
  obtain ⟨v', rows, he, hr, hall⟩ := open_rows Try.underlying31 (show Try.prog.cellsOf 5 = 1 by kernel_rfl) (by omega) hx
  cases he
  have : ∃ bs : List Int, rows = bs.map byC ∧ ∀ x ∈ bs, 0 ≤ x ∧ x < 256 := by
    clear hr hx h
    induction rows with
    | nil => exact ⟨[], rfl, by simp⟩
    | cons r rows ih =>
      obtain ⟨l, rfl, hl⟩ := ih fun r hr => hall r (List.mem_cons_of_mem _ hr)
      obtain ⟨m, y, hy⟩ := hall r (List.mem_cons_self ..)
      obtain ⟨n, rfl, -, hw⟩ := DataW.trod_int Try.underlying5 hy
      refine ⟨n :: l, rfl, fun d hd => (List.mem_cons.1 hd).elim (fun e => ?_) (hl d)⟩
      subst e
      have : 0 ≤ d ∧ d ≤ 255 := by simpa [Lit.wf, IntKind.min, IntKind.max, IntKind.signed, IntKind.bits] using hw
      omega
  obtain ⟨bs, rfl, hb⟩ := this
  exact ⟨bs, hr, hb⟩
theorem arg32 {H : Type} {enc : TypeId × Value → H} {w : World} {base b0 : Nat} {spare : Nat → Bool} {held : Bool} {r : Reach} {v : Value} {d : DataW H} {ps : List MemPlace} (hval : Value.okWide Try.prog w r b0 32 v) (h : DataW.Trod enc Try.prog w base spare held 32 v d ps) :
    ∃ l : List St, RowsAt w v 3 (l.map stC) ∧ True := by
  obtain ⟨fuel, x, hx⟩ := slice_trod Try.underlying32 hval h
  have c39 : Try.prog.cellsOf 39 = 3 := by kernel_rfl
  have c3 : Try.prog.cellsOf 3 = 1 := by kernel_rfl
  obtain ⟨v', rows, he, hr, hall⟩ := open_rows Try.underlying32 c39 (by omega) hx
  cases he
  have : ∃ l : List St, rows = l.map stC := by
    clear hr hx h
    induction rows with
    | nil => exact ⟨[], rfl⟩
    | cons r rows ih =>
      obtain ⟨l, rfl⟩ := ih fun r hr => hall r (List.mem_cons_of_mem _ hr)
      obtain ⟨m, y, hy⟩ := hall r (List.mem_cons_self ..)
      have hl := (fields_of Try.underlying39 hy).1
      rw [c39] at hl
      obtain ⟨k, h0, -⟩ := field_int Try.underlying39 hy 0 0 rfl Try.underlying3 c3
      obtain ⟨a, h1, -⟩ := field_int Try.underlying39 hy 1 1 rfl Try.underlying3 c3
      obtain ⟨b, h2, -⟩ := field_int Try.underlying39 hy 2 2 rfl Try.underlying3 c3
      match r, hl with
      | [c0, c1, c2], _ =>
        simp at h0 h1 h2
        subst h0 h1 h2
        exact ⟨⟨k, a, b⟩ :: l, rfl⟩
  obtain ⟨l, rfl⟩ := this
  exact ⟨l, hr, trivial⟩
theorem steps_law {w : World} {t0 t1 : Value} {bs : List Int} {l : List St} {most : Int} (ht0 : RowsAt w t0 1 (bs.map byC)) (hbs : ∀ x ∈ bs, 0 ≤ x ∧ x < 256) (ht1 : RowsAt w t1 3 (l.map stC)) {K : Value → World → Prop}
    (hK : ∀ w', Ext [] w w' → K (.bool true) w') : callsK Try.prog 4 #[t0, t1, .int .i64 most] w K :=
  steps_spec (by obtain ⟨a, c, h⟩ := ht0.len; rw [h]; rfl) ht0 hbs ht1 hK
end Go.Proofs.Ytlklhempbpphhaa
