/- Steps as bytes, and back: the walk of the law; conditions: those of each theorem. -/
import Derived.Test.YtlklhempbpphhaaSteps
namespace Go.Proofs.Ytlklhempbpphhaa
open Go.Fx
set_option maxRecDepth 100000
set_option linter.unusedSimpArgs false
set_option linter.unusedVariables false
theorem Steps_spec {w : World} {t : Value} (h1 : t.cells = [t].toArray) {K : Value → World → Prop} (hK : K (.func (.func 51) #[] #[.pointer (some ⟨w.heap.size, 0, none⟩)]) (w.alloc (.cells [t].toArray 31))) : callsK Try.prog 15 #[t] w K := by
  apply F15_ok
  unfold F15
  simp (disch := first | assumption | omega | (simp only [szR] <;> omega) | rfl | decide) only [gen0, gen1, gen2, rulesS, litR, bolR, Nat.reduceAdd, Nat.reduceLeDiff, numR, memR, valR, heapR, updR, intR, decR, extR, slR, segR, thenR, Int.reduceToNat, Int.reduceAdd, Int.reduceSub, Int.reduceLT, Int.reduceLE, Nat.reduceSub, Nat.reduceMul, Nat.reduceEqDiff, h1]
  exact hK
/-- the first listener: each is as it should be. -/
theorem c16_spec {w : World} {q1 q2 q3 k : Nat} {x : St} {wv : Value} {L : List St} (h1 : w.heap[q1]? = some (.cells [.bool true].toArray 4 (0, 0))) (h2 : w.heap[q2]? = some (.cells [.int .i64 k].toArray 3 (0, 0))) (h3 : w.heap[q3]? = some (.cells [wv].toArray 33 (0, 0)))
    (h12 : q1 ≠ q2) (hw : RowsAt w wv 3 (L.map stC)) (hx : L[k]? = some x) (hL : L.length ≤ 10000) {K : Value → World → Prop}
    (hK : ∀ w', w'.heap[q1]? = some (.cells [.bool true].toArray 4 (0, 0)) → w'.heap[q2]? = some (.cells [.int .i64 (k + 1 : Nat)].toArray 3 (0, 0)) → Ext [q1, q2] w w' → K (.bool true) w') :
    callsK Try.prog 16 #[.agg (stC x).toArray, .pointer (some ⟨q1, 0, none⟩), .pointer (some ⟨q2, 0, none⟩), .pointer (some ⟨q3, 0, none⟩)] w K := by
  have hk := (List.getElem?_eq_some_iff.1 hx).1
  have l1 := lt_of_at h1
  have l2 := lt_of_at h2
  have l3 := lt_of_at h3
  obtain ⟨b0, o0, l0, E0, f0, i0, m0, n0, q0, -, g0, -⟩ := hw.ixR Try.underlying33 Try.sizeOf40 (r := stC x) (k := k) (by simp [hx])
  have hln := hw.lenR (ty := 3) Try.underlying33
  rw [List.length_map] at hln
  apply F16_ok
  unfold F16
  simp only [stC] at g0
  simp only [stC]
  simp (disch := first | assumption | omega | (simp only [szR] <;> omega) | rfl | decide) only [gen0, gen1, gen2, rulesS, litR, bolR, Nat.reduceAdd, Nat.reduceLeDiff, numR, memR, valR, heapR, updR, intR, decR, extR, slR, segR, thenR, Int.reduceToNat, Int.reduceAdd, Int.reduceSub, Int.reduceLT, Int.reduceLE, Nat.reduceSub, Nat.reduceMul, Nat.reduceEqDiff, joinBR, h1, h2, h3, hln, i0, m0, g0]
  refine hK _ (by simp (disch := first | assumption | omega | (simp only [szR] <;> omega) | rfl | decide) only [gen0, gen1, gen2, rulesS, litR, bolR, Nat.reduceAdd, Nat.reduceLeDiff, numR, memR, valR, heapR, updR, intR, decR, extR, slR, segR, thenR, Int.reduceToNat, Int.reduceAdd, Int.reduceSub, Int.reduceLT, Int.reduceLE, Nat.reduceSub, Nat.reduceMul, Nat.reduceEqDiff, h1]) (by simp (disch := first | assumption | omega | (simp only [szR] <;> omega) | rfl | decide) only [gen0, gen1, gen2, rulesS, litR, bolR, Nat.reduceAdd, Nat.reduceLeDiff, numR, memR, valR, heapR, updR, intR, decR, extR, slR, segR, thenR, Int.reduceToNat, Int.reduceAdd, Int.reduceSub, Int.reduceLT, Int.reduceLE, Nat.reduceSub, Nat.reduceMul, Nat.reduceEqDiff, h2]; rfl) ?_
  (repeat first | assumption | exact Ext.refl | apply Ext.alloc | apply Ext.drew | (refine Ext.updN ?_ ?_; (focus first | omega | (simp only [szR] <;> omega))) | (refine Ext.updI ?_ ?_; (focus (simp; done))))
/-- the second listener: it ends. -/
theorem c17_spec {w : World} {q1 q2 k : Nat} {x : St} {most : Int} (h1 : w.heap[q1]? = some (.cells [.int .i64 k].toArray 3 (0, 0))) (h2 : w.heap[q2]? = some (.cells [.int .i64 most].toArray 3 (0, 0)))
    (h12 : q1 ≠ q2) (hk : k ≤ 10000) {K : Value → World → Prop}
    (hK : ∀ w', w'.heap[q1]? = some (.cells [.int .i64 (k + 1 : Nat)].toArray 3 (0, 0)) → Ext [q1] w w' → K (.bool (decide (((k + 1 : Nat) : Int) ≤ most % 8))) w') :
    callsK Try.prog 17 #[.agg (stC x).toArray, .pointer (some ⟨q1, 0, none⟩), .pointer (some ⟨q2, 0, none⟩)] w K := by
  have l1 := lt_of_at h1
  have l2 := lt_of_at h2
  have hm : bitI .and .i64 most 7 = most % 8 := and_mask (k := .i64) (n := 3) (by decide)
  apply F17_ok
  unfold F17
  simp only [stC]
  simp (disch := first | assumption | omega | (simp only [szR] <;> omega) | rfl | decide) only [gen0, gen1, gen2, rulesS, litR, bolR, Nat.reduceAdd, Nat.reduceLeDiff, numR, memR, valR, heapR, updR, intR, decR, extR, slR, segR, thenR, Int.reduceToNat, Int.reduceAdd, Int.reduceSub, Int.reduceLT, Int.reduceLE, Nat.reduceSub, Nat.reduceMul, Nat.reduceEqDiff, joinBR, h1, h2, hm]
  have e : ((k : Int) + 1) = ((k + 1 : Nat) : Int) := by omega
  rw [e]
  refine hK _ (by simp (disch := first | assumption | omega | (simp only [szR] <;> omega) | rfl | decide) only [gen0, gen1, gen2, rulesS, litR, bolR, Nat.reduceAdd, Nat.reduceLeDiff, numR, memR, valR, heapR, updR, intR, decR, extR, slR, segR, thenR, Int.reduceToNat, Int.reduceAdd, Int.reduceSub, Int.reduceLT, Int.reduceLE, Nat.reduceSub, Nat.reduceMul, Nat.reduceEqDiff, h1]) ?_
  (repeat first | assumption | exact Ext.refl | apply Ext.alloc | apply Ext.drew | (refine Ext.updN ?_ ?_; (focus first | omega | (simp only [szR] <;> omega))) | (refine Ext.updI ?_ ?_; (focus (simp; done))))
/-- the listener of 'one'. -/
theorem c52_spec {w : World} {q1 q2 : Nat} (h1 : w.heap[q1]? = some (.cells [.int .i64 0].toArray 3 (0, 0))) (h2 : w.heap[q2]? = some (.cells [.bool true].toArray 4 (0, 0))) (h12 : q1 ≠ q2) {K : Value → World → Prop}
    (hK : ∀ w', w'.heap[q1]? = some (.cells [.int .i64 1].toArray 3 (0, 0)) → w'.heap[q2]? = some (.cells [.bool true].toArray 4 (0, 0)) → Ext [q1, q2] w w' → K (.bool true) w') :
    callsK Try.prog 52 #[.agg (stC ⟨1, 0, 2⟩).toArray, .pointer (some ⟨q1, 0, none⟩), .pointer (some ⟨q2, 0, none⟩)] w K := by
  have l1 := lt_of_at h1
  have l2 := lt_of_at h2
  apply F52_ok
  unfold F52
  simp only [stC]
  simp (disch := first | assumption | omega | (simp only [szR] <;> omega) | rfl | decide) only [gen0, gen1, gen2, rulesS, litR, bolR, Nat.reduceAdd, Nat.reduceLeDiff, numR, memR, valR, heapR, updR, intR, decR, extR, slR, segR, thenR, Int.reduceToNat, Int.reduceAdd, Int.reduceSub, Int.reduceLT, Int.reduceLE, Nat.reduceSub, Nat.reduceMul, Nat.reduceEqDiff, joinBR, h1, h2]
  refine hK _ (by simp (disch := first | assumption | omega | (simp only [szR] <;> omega) | rfl | decide) only [gen0, gen1, gen2, rulesS, litR, bolR, Nat.reduceAdd, Nat.reduceLeDiff, numR, memR, valR, heapR, updR, intR, decR, extR, slR, segR, thenR, Int.reduceToNat, Int.reduceAdd, Int.reduceSub, Int.reduceLT, Int.reduceLE, Nat.reduceSub, Nat.reduceMul, Nat.reduceEqDiff, h1]) (by simp (disch := first | assumption | omega | (simp only [szR] <;> omega) | rfl | decide) only [gen0, gen1, gen2, rulesS, litR, bolR, Nat.reduceAdd, Nat.reduceLeDiff, numR, memR, valR, heapR, updR, intR, decR, extR, slR, segR, thenR, Int.reduceToNat, Int.reduceAdd, Int.reduceSub, Int.reduceLT, Int.reduceLE, Nat.reduceSub, Nat.reduceMul, Nat.reduceEqDiff, h2]) ?_
  (repeat first | assumption | exact Ext.refl | apply Ext.alloc | apply Ext.drew | (refine Ext.updN ?_ ?_; (focus first | omega | (simp only [szR] <;> omega))) | (refine Ext.updI ?_ ?_; (focus (simp; done))))
theorem one19_spec {w : World} {K : Value → World → Prop} (hK : ∀ w', Ext [] w w' → K (.bool true) w') : callsK Try.prog 19 #[] w K := by
  apply F19_ok
  unfold F19
  simp (disch := first | assumption | omega | (simp only [szR] <;> omega) | rfl | decide) only [gen0, gen1, gen2, rulesS, litR, bolR, Nat.reduceAdd, Nat.reduceLeDiff, numR, memR, valR, heapR, updR, intR, decR, extR, slR, segR, thenR, Int.reduceToNat, Int.reduceAdd, Int.reduceSub, Int.reduceLT, Int.reduceLE, Nat.reduceSub, Nat.reduceMul, Nat.reduceEqDiff]
  refine Steps_spec rfl ?_
  simp (disch := first | assumption | omega | (simp only [szR] <;> omega) | rfl | decide) only [gen0, gen1, gen2, rulesS, litR, bolR, Nat.reduceAdd, Nat.reduceLeDiff, numR, memR, valR, heapR, updR, intR, decR, extR, slR, segR, thenR, Int.reduceToNat, Int.reduceAdd, Int.reduceSub, Int.reduceLT, Int.reduceLE, Nat.reduceSub, Nat.reduceMul, Nat.reduceEqDiff]
  refine iter_spec (bs := [1, 0, 2, 5]) (S := [w.heap.size + 1 + 1, w.heap.size + 1 + 1 + 1]) (c := fun _ => true) (I := fun k w' => w'.heap[w.heap.size + 1 + 1]? = some (.cells [.int .i64 k].toArray 3 (0, 0)) ∧ w'.heap[w.heap.size + 1 + 1 + 1]? = some (.cells [.bool true].toArray 4 (0, 0)) ∧ Ext [] w w')
    (p := w.heap.size + 1) (tv := .slice (some ⟨w.heap.size, 0, none⟩) 4 4) (E := 31) ?_ ?_ (by simp) (by simp) ?_ ?_ ?_ ?_ ?_
  · simp (disch := first | assumption | omega | (simp only [szR] <;> omega) | rfl | decide) only [gen0, gen1, gen2, rulesS, litR, bolR, Nat.reduceAdd, Nat.reduceLeDiff, numR, memR, valR, heapR, updR, intR, decR, extR, slR, segR, thenR, Int.reduceToNat, Int.reduceAdd, Int.reduceSub, Int.reduceLT, Int.reduceLE, Nat.reduceSub, Nat.reduceMul, Nat.reduceEqDiff]
  · exact ⟨_, 4, rfl, ⟨Nat.le_refl _, by simp [maxLen]⟩, .inr ⟨w.heap.size, 0, [.int .u8 1, .int .u8 0, .int .u8 2, .int .u8 5], 5, (0, 0), rfl, by simp (disch := first | assumption | omega | (simp only [szR] <;> omega) | rfl | decide) only [gen0, gen1, gen2, rulesS, litR, bolR, Nat.reduceAdd, Nat.reduceLeDiff, numR, memR, valR, heapR, updR, intR, decR, extR, slR, segR, thenR, Int.reduceToNat, Int.reduceAdd, Int.reduceSub, Int.reduceLT, Int.reduceLE, Nat.reduceSub, Nat.reduceMul, Nat.reduceEqDiff], by simp, fun i r hi => by
      match i, hi with
      | 0, hi => simpa [byC, sub] using hi
      | 1, hi => simpa [byC, sub] using hi
      | 2, hi => simpa [byC, sub] using hi
      | 3, hi => simpa [byC, sub] using hi⟩⟩
  · intro _ b hb
    cases hb
    simp
    omega
  · exact ⟨by simp (disch := first | assumption | omega | (simp only [szR] <;> omega) | rfl | decide) only [gen0, gen1, gen2, rulesS, litR, bolR, Nat.reduceAdd, Nat.reduceLeDiff, numR, memR, valR, heapR, updR, intR, decR, extR, slR, segR, thenR, Int.reduceToNat, Int.reduceAdd, Int.reduceSub, Int.reduceLT, Int.reduceLE, Nat.reduceSub, Nat.reduceMul, Nat.reduceEqDiff], by simp (disch := first | assumption | omega | (simp only [szR] <;> omega) | rfl | decide) only [gen0, gen1, gen2, rulesS, litR, bolR, Nat.reduceAdd, Nat.reduceLeDiff, numR, memR, valR, heapR, updR, intR, decR, extR, slR, segR, thenR, Int.reduceToNat, Int.reduceAdd, Int.reduceSub, Int.reduceLT, Int.reduceLE, Nat.reduceSub, Nat.reduceMul, Nat.reduceEqDiff], by (repeat first | assumption | exact Ext.refl | apply Ext.alloc | apply Ext.drew | (refine Ext.updN ?_ ?_; (focus first | omega | (simp only [szR] <;> omega))) | (refine Ext.updI ?_ ?_; (focus (simp; done))))⟩
  · rintro k w1 w2 ⟨h1, h2, h3⟩ hx
    exact ⟨hx.at h1 (by simp), hx.at h2 (by simp), h3.trans hx (by simp)⟩
  · rintro k x w1 hx ⟨h1, h2, h3⟩ hxt K hK
    obtain rfl : k = 0 := by
      have := (List.getElem?_eq_some_iff.1 hx).1
      simp [stepsOf] at this
      omega
    obtain rfl : x = ⟨1, 0, 2⟩ := by
      simp [stepsOf, stepOf] at hx
      exact hx.symm
    simp (disch := first | assumption | omega | (simp only [szR] <;> omega) | rfl | decide) only [gen0, gen1, gen2, rulesS, litR, bolR, Nat.reduceAdd, Nat.reduceLeDiff, numR, memR, valR, heapR, updR, intR, decR, extR, slR, segR, thenR, Int.reduceToNat, Int.reduceAdd, Int.reduceSub, Int.reduceLT, Int.reduceLE, Nat.reduceSub, Nat.reduceMul, Nat.reduceEqDiff]
    refine c52_spec h1 h2 (by omega) fun w2 g1 g2 g3 => ?_
    exact hK w2 ⟨g1, g2, h3.trans g3 (by simp; omega)⟩ g3
  · rintro k w1 hk ⟨h1, h2, h3⟩ hxt hd
    have hk1 : k = 1 := by
      rcases hd with ⟨h, -⟩ | ⟨-, h, -⟩
      · exact h
      · cases h
    subst hk1
    simp (disch := first | assumption | omega | (simp only [szR] <;> omega) | rfl | decide) only [gen0, gen1, gen2, rulesS, litR, bolR, Nat.reduceAdd, Nat.reduceLeDiff, numR, memR, valR, heapR, updR, intR, decR, extR, slR, segR, thenR, Int.reduceToNat, Int.reduceAdd, Int.reduceSub, Int.reduceLT, Int.reduceLE, Nat.reduceSub, Nat.reduceMul, Nat.reduceEqDiff, joinBR, h1, h2]
    exact hK _ h3
/-! ### bytes of steps -/
def Fits (s : St) : Prop := (0 ≤ s.k ∧ s.k ≤ 9) ∧ (0 ≤ s.a ∧ s.a ≤ 255) ∧ (0 ≤ s.b ∧ s.b ≤ 255)
instance (s : St) : Decidable (Fits s) := by unfold Fits; exact inferInstance
def bytesOf (l : List St) : List Int := l.flatMap fun s => [s.k, s.a, s.b]
theorem bytesOf_length (l : List St) : (bytesOf l).length = 3 * l.length := by
  induction l with
  | nil => rfl
  | cons x l ih =>
    show ([x.k, x.a, x.b] ++ bytesOf l).length = _
    rw [List.length_append, ih]; simp; omega
theorem Bytes_spec {w : World} {t : Value} {l : List St} (ht : RowsAt w t 3 (l.map stC)) (hl : l.length ≤ 1000) {K : Value → World → Prop}
    (h1 : (∀ s ∈ l, Fits s) → ∀ v w', OwnR w' w.heap.size 5 1 v ((bytesOf l).map byC) → Ext [] w w' → K (.tuple #[v, .bool true]) w')
    (h2 : ¬ (∀ s ∈ l, Fits s) → ∀ w', Ext [] w w' → K (.tuple #[.slice none 0 0, .bool false]) w') : callsK Try.prog 18 #[t] w K := by
  apply F18_ok
  unfold F18
  have hln := ht.lenR (ty := 3) Try.underlying32
  rw [List.length_map] at hln
  simp (disch := first | assumption | omega | (simp only [szR] <;> omega) | rfl | decide) only [gen0, gen1, gen2, rulesS, litR, bolR, Nat.reduceAdd, Nat.reduceLeDiff, numR, memR, valR, heapR, updR, intR, decR, extR, slR, segR, thenR, Int.reduceToNat, Int.reduceAdd, Int.reduceSub, Int.reduceLT, Int.reduceLE, Nat.reduceSub, Nat.reduceMul, Nat.reduceEqDiff, hln]
  refine loopT.intro (fun st w' => ∃ (j : Nat) (z : Int) (v : Value), j ≤ l.length ∧ st = [v, .int .i64 z] ∧ z = j ∧ OwnR w' w.heap.size 5 1 v ((bytesOf (l.take j)).map byC) ∧ Ext [] w w' ∧ ∀ s ∈ l.take j, Fits s)
    (fun st _ => match st with
      | [_, .int _ z] => l.length - z.toNat
      | _ => 0) ⟨0, 0, _, Nat.zero_le _, rfl, rfl, OwnR.nil, Ext.refl, by simp⟩ ?_
  rintro st w' ⟨j, z, v, hj, rfl, rfl, hown, hx, hfit⟩ _
  have ht' := ht.ext hx (by simp)
  by_cases hjl : j < l.length
  · obtain ⟨b0, o0, l0, E0, f0, i0, m0, n0, q0, -, g0, -⟩ := ht'.ixR Try.underlying32 Try.sizeOf39 (r := stC l[j]) (k := j) (by simp [hjl])
    have hmem : l[j] ∈ l := List.getElem_mem hjl
    have htk : l.take (j + 1) = l.take j ++ [l[j]] := List.take_succ_eq_append_getElem hjl
    have hbl := bytesOf_length (l.take j)
    rw [List.length_take] at hbl
    generalize l[j] = x at g0 hmem htk
    simp only [stC] at g0
    have hno : ¬ Fits x → K (.tuple #[.slice none 0 0, .bool false]) (w'.alloc (.cells [.int .i64 x.k, .int .i64 x.a, .int .i64 x.b].toArray 39)) := fun h => h2 (fun h' => h (h' x hmem)) _ (by (repeat first | assumption | exact Ext.refl | apply Ext.alloc | apply Ext.drew | (refine Ext.updN ?_ ?_; (focus first | omega | (simp only [szR] <;> omega))) | (refine Ext.updI ?_ ?_; (focus (simp; done)))))
    by_cases c1 : 0 ≤ x.k
    · by_cases c2 : x.k ≤ 9
      · by_cases c3 : 0 ≤ x.a
        · by_cases c4 : x.a ≤ 255
          · by_cases c5 : 0 ≤ x.b
            · by_cases c6 : x.b ≤ 255
              · have hx1 : Ext [] w' ((w'.alloc (.cells [.int .i64 x.k, .int .i64 x.a, .int .i64 x.b].toArray 39)).alloc (.cells [.int .u8 x.k, .int .u8 x.a, .int .u8 x.b].toArray 5)) := by (repeat first | assumption | exact Ext.refl | apply Ext.alloc | apply Ext.drew | (refine Ext.updN ?_ ?_; (focus first | omega | (simp only [szR] <;> omega))) | (refine Ext.updI ?_ ?_; (focus (simp; done))))
                simp (disch := first | assumption | omega | (simp only [szR] <;> omega) | rfl | decide) only [gen0, gen1, gen2, rulesS, litR, bolR, Nat.reduceAdd, Nat.reduceLeDiff, numR, memR, valR, heapR, updR, intR, decR, extR, slR, segR, thenR, Int.reduceToNat, Int.reduceAdd, Int.reduceSub, Int.reduceLT, Int.reduceLE, Nat.reduceSub, Nat.reduceMul, Nat.reduceEqDiff, joinBR, hln, i0, m0, g0]
                refine app31 (rows2 := [byC x.k, byC x.a, byC x.b]) (hown.ext hx1 (by simp)) ⟨_, 3, rfl, ⟨Nat.le_refl _, by simp [maxLen]⟩, .inr ⟨_, 0, _, 5, (0, 0), rfl, alloc_at (by simp (disch := first | assumption | omega | (simp only [szR] <;> omega) | rfl | decide) only [gen0, gen1, gen2, rulesS, litR, bolR, Nat.reduceAdd, Nat.reduceLeDiff, numR, memR, valR, heapR, updR, intR, decR, extR, slR, segR, thenR, Int.reduceToNat, Int.reduceAdd, Int.reduceSub, Int.reduceLT, Int.reduceLE, Nat.reduceSub, Nat.reduceMul, Nat.reduceEqDiff]), by simp, fun i r hi => by
                  match i, hi with
                  | 0, hi => simpa [byC, sub] using hi
                  | 1, hi => simpa [byC, sub] using hi
                  | 2, hi => simpa [byC, sub] using hi⟩⟩ (by simp [byC]; exact ⟨rfl, rfl, rfl⟩) (by simp; omega) (Nat.le_trans hx.size hx1.size) fun v' w3 h5 a5 => ?_
                simp (disch := first | assumption | omega | (simp only [szR] <;> omega) | rfl | decide) only [gen0, gen1, gen2, rulesS, litR, bolR, Nat.reduceAdd, Nat.reduceLeDiff, numR, memR, valR, heapR, updR, intR, decR, extR, slR, segR, thenR, Int.reduceToNat, Int.reduceAdd, Int.reduceSub, Int.reduceLT, Int.reduceLE, Nat.reduceSub, Nat.reduceMul, Nat.reduceEqDiff]
                refine ⟨⟨j + 1, _, v', by omega, rfl, by omega, ?_, a5.ext w [] (Nat.le_refl _) (hx.trans hx1 (by simp)), ?_⟩, by simp; omega⟩
                · rw [htk]
                  simpa [bytesOf] using h5
                · rw [htk]
                  intro s hs
                  rcases List.mem_append.1 hs with h | h
                  · exact hfit s h
                  · rw [List.mem_singleton.1 h]; exact ⟨⟨c1, c2⟩, ⟨c3, c4⟩, ⟨c5, c6⟩⟩
              · simp (disch := first | assumption | omega | (simp only [szR] <;> omega) | rfl | decide) only [gen0, gen1, gen2, rulesS, litR, bolR, Nat.reduceAdd, Nat.reduceLeDiff, numR, memR, valR, heapR, updR, intR, decR, extR, slR, segR, thenR, Int.reduceToNat, Int.reduceAdd, Int.reduceSub, Int.reduceLT, Int.reduceLE, Nat.reduceSub, Nat.reduceMul, Nat.reduceEqDiff, joinBR, hln, i0, m0, g0]
                exact hno fun h => c6 h.2.2.2
            · simp (disch := first | assumption | omega | (simp only [szR] <;> omega) | rfl | decide) only [gen0, gen1, gen2, rulesS, litR, bolR, Nat.reduceAdd, Nat.reduceLeDiff, numR, memR, valR, heapR, updR, intR, decR, extR, slR, segR, thenR, Int.reduceToNat, Int.reduceAdd, Int.reduceSub, Int.reduceLT, Int.reduceLE, Nat.reduceSub, Nat.reduceMul, Nat.reduceEqDiff, joinBR, hln, i0, m0, g0]
              exact hno fun h => c5 h.2.2.1
          · simp (disch := first | assumption | omega | (simp only [szR] <;> omega) | rfl | decide) only [gen0, gen1, gen2, rulesS, litR, bolR, Nat.reduceAdd, Nat.reduceLeDiff, numR, memR, valR, heapR, updR, intR, decR, extR, slR, segR, thenR, Int.reduceToNat, Int.reduceAdd, Int.reduceSub, Int.reduceLT, Int.reduceLE, Nat.reduceSub, Nat.reduceMul, Nat.reduceEqDiff, joinBR, hln, i0, m0, g0]
            exact hno fun h => c4 h.2.1.2
        · simp (disch := first | assumption | omega | (simp only [szR] <;> omega) | rfl | decide) only [gen0, gen1, gen2, rulesS, litR, bolR, Nat.reduceAdd, Nat.reduceLeDiff, numR, memR, valR, heapR, updR, intR, decR, extR, slR, segR, thenR, Int.reduceToNat, Int.reduceAdd, Int.reduceSub, Int.reduceLT, Int.reduceLE, Nat.reduceSub, Nat.reduceMul, Nat.reduceEqDiff, joinBR, hln, i0, m0, g0]
          exact hno fun h => c3 h.2.1.1
      · simp (disch := first | assumption | omega | (simp only [szR] <;> omega) | rfl | decide) only [gen0, gen1, gen2, rulesS, litR, bolR, Nat.reduceAdd, Nat.reduceLeDiff, numR, memR, valR, heapR, updR, intR, decR, extR, slR, segR, thenR, Int.reduceToNat, Int.reduceAdd, Int.reduceSub, Int.reduceLT, Int.reduceLE, Nat.reduceSub, Nat.reduceMul, Nat.reduceEqDiff, joinBR, hln, i0, m0, g0]
        exact hno fun h => c2 h.1.2
    · simp (disch := first | assumption | omega | (simp only [szR] <;> omega) | rfl | decide) only [gen0, gen1, gen2, rulesS, litR, bolR, Nat.reduceAdd, Nat.reduceLeDiff, numR, memR, valR, heapR, updR, intR, decR, extR, slR, segR, thenR, Int.reduceToNat, Int.reduceAdd, Int.reduceSub, Int.reduceLT, Int.reduceLE, Nat.reduceSub, Nat.reduceMul, Nat.reduceEqDiff, joinBR, hln, i0, m0, g0]
      exact hno fun h => c1 h.1.1
  · obtain rfl : j = l.length := by omega
    simp (disch := first | assumption | omega | (simp only [szR] <;> omega) | rfl | decide) only [gen0, gen1, gen2, rulesS, litR, bolR, Nat.reduceAdd, Nat.reduceLeDiff, numR, memR, valR, heapR, updR, intR, decR, extR, slR, segR, thenR, Int.reduceToNat, Int.reduceAdd, Int.reduceSub, Int.reduceLT, Int.reduceLE, Nat.reduceSub, Nat.reduceMul, Nat.reduceEqDiff, hln]
    rw [List.take_length] at hown hfit
    exact h1 hfit _ _ hown hx
end Go.Proofs.Ytlklhempbpphhaa
