/- One step, told by its bytes; conditions: those of each theorem. -/
import Derived.Test.YtgnibcaflidjmaaTraces
namespace Go.Proofs.Ytgnibcaflidjmaa
open Go.Fx
set_option maxRecDepth 100000
set_option linter.unusedSimpArgs false
set_option linter.unusedVariables false
/-- a step. -/
structure St where
  k : Int
  a : Int
  b : Int
def stC (s : St) : List Value := [.int .i64 s.k, .int .i64 s.a, .int .i64 s.b]
def byC (x : Int) : List Value := [.int .u8 x]
def stepOf (x y z : Int) : St := ⟨if 9 < x then 0 else x, y, z⟩
def stepsOf (bs : List Int) : List St := (List.range (bs.length / 3)).map fun j => stepOf (bs.getD (3 * j) 0) (bs.getD (3 * j + 1) 0) (bs.getD (3 * j + 2) 0)
theorem stepsOf_length (bs : List Int) : (stepsOf bs).length = bs.length / 3 := by simp [stepsOf]
theorem stepsOf_get {bs : List Int} {j : Nat} (h : 3 * j + 2 < bs.length) : (stepsOf bs)[j]? = some (stepOf (bs[3 * j]'(by omega)) (bs[3 * j + 1]'(by omega)) bs[3 * j + 2]) := by
  have h1 : j < bs.length / 3 := by omega
  simp [stepsOf, h1, h, show 3 * j < bs.length by omega, show 3 * j + 1 < bs.length by omega]
theorem byGet {bs : List Int} {i : Nat} (h : i < bs.length) : (bs.map byC)[i]? = some (byC bs[i]) := by simp [h]
theorem iter_spec {w : World} {f tv : Value} {p : Nat} {E : TypeId} {bs : List Int} {I : Nat → World → Prop} {c : Nat → Bool} {S : List Nat} (hp : w.heap[p]? = some (.cells [tv].toArray E (0, 0))) (ht : RowsAt w tv 1 (bs.map byC)) (hb : ∀ x ∈ bs, 0 ≤ x ∧ x < 256) (hl : bs.length ≤ 10000)
    (hS : bs ≠ [] → ∀ b, blockOf tv = some b → b ∉ S) (hI : I 0 w) (hIe : ∀ k w w', I k w → Ext [] w w' → I k w')
    (hf : ∀ k x w', (stepsOf bs)[k]? = some x → I k w' → Ext S w w' → ∀ K : Value → World → Prop, (∀ w'', I (k + 1) w'' → Ext S w' w'' → K (.bool (c k)) w'') → kN Try.prog (callN f #[.agg (stC x).toArray]) w' K) {K : Value → World → Prop}
    (hK : ∀ k w', k ≤ bs.length / 3 → I k w' → Ext S w w' → (k = bs.length / 3 ∧ (∀ i, i < k → c i = true) ∨ (0 < k ∧ c (k - 1) = false ∧ ∀ i, i < k - 1 → c i = true)) → K (.tuple #[]) w') : callsK Try.prog 60 #[f, .pointer (some ⟨p, 0, none⟩)] w K := by
  apply F60_ok
  unfold F60
  simp (disch := first | assumption | omega | (simp only [szR] <;> omega) | rfl | decide) only [gen0, gen1, gen2, rulesC, litR, bolR, Nat.reduceAdd, Nat.reduceLeDiff, numR, memR, valR, heapR, updR, intR, decR, extR, slR, segR, thenR, pnR, Int.reduceToNat, Int.reduceAdd, Int.reduceSub, Int.reduceLT, Int.reduceLE, Nat.reduceSub, Nat.reduceMul, Nat.reduceEqDiff, hp]
  refine loopT.intro (fun st w' => ∃ (j : Nat) (v : Value), j ≤ bs.length / 3 ∧ st = [v] ∧ RowsAt w' v 1 ((bs.drop (3 * j)).map byC) ∧ blockOf v = blockOf tv ∧ I j w' ∧ Ext S w w' ∧ ∀ i, i < j → c i = true)
    (fun st _ => match st with
      | [.slice _ n _] => n
      | _ => 0) ⟨0, tv, Nat.zero_le _, rfl, by simpa using ht, rfl, hI, Ext.refl, by simp⟩ ?_
  rintro st w' ⟨j, v, hj, rfl, hv, hbv, hI', hx, hci⟩ _
  have hln := hv.lenR (ty := 3) Try.underlying60
  have hdl : ((bs.drop (3 * j)).map byC).length = bs.length - 3 * j := by simp
  rw [hdl] at hln
  by_cases hjl : 3 * j + 2 < bs.length
  · have hg := stepsOf_get hjl
    have r0 : ((bs.drop (3 * j)).map byC)[0]? = some (byC (bs[3 * j]'(by omega))) := by simp [show 3 * j < bs.length by omega]
    have r1 : ((bs.drop (3 * j)).map byC)[1]? = some (byC (bs[3 * j + 1]'(by omega))) := by simp [show 3 * j + 1 < bs.length by omega]
    have r2 : ((bs.drop (3 * j)).map byC)[2]? = some (byC bs[3 * j + 2]) := by simp [hjl]
    obtain ⟨b0, o0, l0, E0, f0, i0, m0, n0, q0, -, -, g0⟩ := hv.ixR Try.underlying60 Try.sizeOf5 r0
    obtain ⟨b1, o1, l1, E1, f1, i1, m1, n1, q1, -, -, g1⟩ := hv.ixR Try.underlying60 Try.sizeOf5 r1
    obtain ⟨b2, o2, l2, E2, f2, i2, m2, n2, q2, -, -, g2⟩ := hv.ixR Try.underlying60 Try.sizeOf5 r2
    have k0 := hb _ (List.getElem_mem (show 3 * j < bs.length by omega))
    have k1 := hb _ (List.getElem_mem (show 3 * j + 1 < bs.length by omega))
    have k2 := hb _ (List.getElem_mem hjl)
    generalize bs[3 * j] = x0 at hg g0 k0
    generalize bs[3 * j + 1] = x1 at hg g1 k1
    generalize bs[3 * j + 2] = x2 at hg g2 k2
    have e0 : l0[o0]? = some (.int .u8 x0) := g0 o0 0 rfl (by omega)
    have e1 : l1[o1]? = some (.int .u8 x1) := g1 o1 0 rfl (by omega)
    have e2 : l2[o2]? = some (.int .u8 x2) := g2 o2 0 rfl (by omega)
    have j0 := fun w kd => i0 w kd 0 rfl
    have j1 := fun w kd => i1 w kd 1 rfl
    have j2 := fun w kd => i2 w kd 2 rfl
    simp (disch := first | assumption | omega | (simp only [szR] <;> omega) | rfl | decide) only [gen0, gen1, gen2, rulesC, litR, bolR, Nat.reduceAdd, Nat.reduceLeDiff, numR, memR, valR, heapR, updR, intR, decR, extR, slR, segR, thenR, pnR, Int.reduceToNat, Int.reduceAdd, Int.reduceSub, Int.reduceLT, Int.reduceLE, Nat.reduceSub, Nat.reduceMul, Nat.reduceEqDiff, hln]
    refine joinL.intro fun J2 hJ2 => ?_
    simp (disch := first | assumption | omega | (simp only [szR] <;> omega) | rfl | decide) only [gen0, gen1, gen2, rulesC, litR, bolR, Nat.reduceAdd, Nat.reduceLeDiff, numR, memR, valR, heapR, updR, intR, decR, extR, slR, segR, thenR, pnR, Int.reduceToNat, Int.reduceAdd, Int.reduceSub, Int.reduceLT, Int.reduceLE, Nat.reduceSub, Nat.reduceMul, Nat.reduceEqDiff, j0, j1, j2, m0, m1, m2, e0, e1, e2, and_self]
    apply hJ2
    intro _
    have hc : (w'.drew.alloc (.cells [.int .i64 x0, .int .i64 x1, .int .i64 x2].toArray 84)).heap[w'.heap.size]? = some (.cells [.int .i64 x0, .int .i64 x1, .int .i64 x2].toArray 84 (0, 0)) := by simp (disch := first | assumption | omega | (simp only [szR] <;> omega) | rfl | decide) only [gen0, gen1, gen2, rulesC, litR, bolR, Nat.reduceAdd, Nat.reduceLeDiff, numR, memR, valR, heapR, updR, intR, decR, extR, slR, segR, thenR, pnR, Int.reduceToNat, Int.reduceAdd, Int.reduceSub, Int.reduceLT, Int.reduceLE, Nat.reduceSub, Nat.reduceMul, Nat.reduceEqDiff]
    have hx1 : Ext [] w' (w'.drew.alloc (.cells [.int .i64 x0, .int .i64 x1, .int .i64 x2].toArray 84)) := by (repeat first | assumption | exact Ext.refl | apply Ext.alloc | apply Ext.drew | (refine Ext.updN ?_ ?_; (focus first | omega | (simp only [szR] <;> omega))) | (refine Ext.updI ?_ ?_; (focus (simp; done))))
    have hsz := hx1.size
    generalize w'.drew.alloc (.cells [.int .i64 x0, .int .i64 x1, .int .i64 x2].toArray 84) = wc at hc hx1 hsz
    have hcl := lt_of_at hc
    refine joinL.intro fun J4 hJ4 => ?_
    have hrest : ∀ w2, w2.heap[w'.heap.size]? = some (.cells (stC (stepOf x0 x1 x2)).toArray 84 (0, 0)) → Ext [] w' w2 → J4 [] w2 := by
      intro w2 h1 h2
      apply hJ4
      intro _
      have h3 : (stC (stepOf x0 x1 x2)).length = 3 := rfl
      have h4 : sub (stC (stepOf x0 x1 x2)) 0 3 = stC (stepOf x0 x1 x2) := rfl
      have hxs : Ext S w w2 := hx.trans h2 (by simp)
      simp (disch := first | assumption | omega | (simp only [szR] <;> omega) | rfl | decide) only [gen0, gen1, gen2, rulesC, litR, bolR, Nat.reduceAdd, Nat.reduceLeDiff, numR, memR, valR, heapR, updR, intR, decR, extR, slR, segR, thenR, pnR, Int.reduceToNat, Int.reduceAdd, Int.reduceSub, Int.reduceLT, Int.reduceLE, Nat.reduceSub, Nat.reduceMul, Nat.reduceEqDiff, h1, h4]
      refine hf j _ w2 hg (hIe j _ _ hI' h2) hxs _ fun w3 hI3 hx3 => ?_
      have hxf := hxs.trans hx3 (fun k hk => .inl hk)
      cases hcj : c j with
      | false =>
        simp (disch := first | assumption | omega | (simp only [szR] <;> omega) | rfl | decide) only [gen0, gen1, gen2, rulesC, litR, bolR, Nat.reduceAdd, Nat.reduceLeDiff, numR, memR, valR, heapR, updR, intR, decR, extR, slR, segR, thenR, pnR, Int.reduceToNat, Int.reduceAdd, Int.reduceSub, Int.reduceLT, Int.reduceLE, Nat.reduceSub, Nat.reduceMul, Nat.reduceEqDiff, hcj]
        exact hK (j + 1) w3 (by omega) hI3 hxf (.inr ⟨by omega, hcj, hci⟩)
      | true =>
        simp (disch := first | assumption | omega | (simp only [szR] <;> omega) | rfl | decide) only [gen0, gen1, gen2, rulesC, litR, bolR, Nat.reduceAdd, Nat.reduceLeDiff, numR, memR, valR, heapR, updR, intR, decR, extR, slR, segR, thenR, pnR, Int.reduceToNat, Int.reduceAdd, Int.reduceSub, Int.reduceLT, Int.reduceLE, Nat.reduceSub, Nat.reduceMul, Nat.reduceEqDiff, hcj]
        have hv3 := (hv.ext h2 (by simp)).at hx3 (fun b hb => hS (fun h => by simp [h] at hjl) b (hbv ▸ hb))
        refine kV_cut Try.underlying60 Try.sizeOf5 hv3 3 _ (by rw [hdl]; omega) (Nat.le_refl _) (.inr ⟨_, _, rfl, rfl⟩) (.inl ⟨rfl, rfl⟩) fun v10 h10 b10 => ?_
        have h11 := h10 _ hv3
        rw [List.take_length, ← List.map_drop, List.drop_drop] at h11
        refine ⟨⟨j + 1, v10, by omega, rfl, h11, b10.trans hbv, hI3, hxf, fun i hi => ?_⟩, ?_⟩
        · rcases Nat.lt_succ_iff_lt_or_eq.1 hi with h | rfl
          · exact hci i h
          · exact hcj
        · obtain ⟨a1, c1, rfl⟩ := h11.len
          obtain ⟨a2, c2, rfl⟩ := hv.len
          simp
          omega
    by_cases h9 : 9 < x0
    · simp (disch := first | assumption | omega | (simp only [szR] <;> omega) | rfl | decide) only [gen0, gen1, gen2, rulesC, litR, bolR, Nat.reduceAdd, Nat.reduceLeDiff, numR, memR, valR, heapR, updR, intR, decR, extR, slR, segR, thenR, pnR, Int.reduceToNat, Int.reduceAdd, Int.reduceSub, Int.reduceLT, Int.reduceLE, Nat.reduceSub, Nat.reduceMul, Nat.reduceEqDiff, hc]
      refine hrest _ ?_ (by (repeat first | assumption | exact Ext.refl | apply Ext.alloc | apply Ext.drew | (refine Ext.updN ?_ ?_; (focus first | omega | (simp only [szR] <;> omega))) | (refine Ext.updI ?_ ?_; (focus (simp; done)))))
      simp (disch := first | assumption | omega | (simp only [szR] <;> omega) | rfl | decide) only [gen0, gen1, gen2, rulesC, litR, bolR, Nat.reduceAdd, Nat.reduceLeDiff, numR, memR, valR, heapR, updR, intR, decR, extR, slR, segR, thenR, pnR, Int.reduceToNat, Int.reduceAdd, Int.reduceSub, Int.reduceLT, Int.reduceLE, Nat.reduceSub, Nat.reduceMul, Nat.reduceEqDiff, hc]
      simp [stC, stepOf, h9]
    · simp (disch := first | assumption | omega | (simp only [szR] <;> omega) | rfl | decide) only [gen0, gen1, gen2, rulesC, litR, bolR, Nat.reduceAdd, Nat.reduceLeDiff, numR, memR, valR, heapR, updR, intR, decR, extR, slR, segR, thenR, pnR, Int.reduceToNat, Int.reduceAdd, Int.reduceSub, Int.reduceLT, Int.reduceLE, Nat.reduceSub, Nat.reduceMul, Nat.reduceEqDiff, hc]
      refine hrest _ ?_ hx1
      rw [hc]
      simp [stC, stepOf, h9]
  · obtain rfl : j = bs.length / 3 := by omega
    simp (disch := first | assumption | omega | (simp only [szR] <;> omega) | rfl | decide) only [gen0, gen1, gen2, rulesC, litR, bolR, Nat.reduceAdd, Nat.reduceLeDiff, numR, memR, valR, heapR, updR, intR, decR, extR, slR, segR, thenR, pnR, Int.reduceToNat, Int.reduceAdd, Int.reduceSub, Int.reduceLT, Int.reduceLE, Nat.reduceSub, Nat.reduceMul, Nat.reduceEqDiff, hln]
    exact hK _ w' (Nat.le_refl _) hI' hx (.inl ⟨rfl, hci⟩)
theorem Steps_spec {w : World} {t : Value} (h1 : t.cells = [t].toArray) {K : Value → World → Prop} (hK : K (.func (.func 60) #[] #[.pointer (some ⟨w.heap.size, 0, none⟩)]) (w.alloc (.cells [t].toArray 60))) : callsK Try.prog 39 #[t] w K := by
  apply F39_ok
  unfold F39
  simp (disch := first | assumption | omega | (simp only [szR] <;> omega) | rfl | decide) only [gen0, gen1, gen2, rulesC, litR, bolR, Nat.reduceAdd, Nat.reduceLeDiff, numR, memR, valR, heapR, updR, intR, decR, extR, slR, segR, thenR, pnR, Int.reduceToNat, Int.reduceAdd, Int.reduceSub, Int.reduceLT, Int.reduceLE, Nat.reduceSub, Nat.reduceMul, Nat.reduceEqDiff, h1]
  exact hK
/-- the listener of 'one'. -/
theorem c52_spec {w : World} {q1 q2 : Nat} (h1 : w.heap[q1]? = some (.cells [.int .i64 0].toArray 3 (0, 0))) (h2 : w.heap[q2]? = some (.cells [.bool true].toArray 4 (0, 0))) (h12 : q1 ≠ q2) {K : Value → World → Prop}
    (hK : ∀ w', w'.heap[q1]? = some (.cells [.int .i64 1].toArray 3 (0, 0)) → w'.heap[q2]? = some (.cells [.bool true].toArray 4 (0, 0)) → Ext [q1, q2] w w' → K (.bool true) w') :
    callsK Try.prog 40 #[.agg (stC ⟨1, 0, 2⟩).toArray, .pointer (some ⟨q1, 0, none⟩), .pointer (some ⟨q2, 0, none⟩)] w K := by
  have l1 := lt_of_at h1
  have l2 := lt_of_at h2
  apply F40_ok
  unfold F40
  simp only [stC]
  simp (disch := first | assumption | omega | (simp only [szR] <;> omega) | rfl | decide) only [gen0, gen1, gen2, rulesC, litR, bolR, Nat.reduceAdd, Nat.reduceLeDiff, numR, memR, valR, heapR, updR, intR, decR, extR, slR, segR, thenR, pnR, Int.reduceToNat, Int.reduceAdd, Int.reduceSub, Int.reduceLT, Int.reduceLE, Nat.reduceSub, Nat.reduceMul, Nat.reduceEqDiff, joinBR, h1, h2]
  refine hK _ (by simp (disch := first | assumption | omega | (simp only [szR] <;> omega) | rfl | decide) only [gen0, gen1, gen2, rulesC, litR, bolR, Nat.reduceAdd, Nat.reduceLeDiff, numR, memR, valR, heapR, updR, intR, decR, extR, slR, segR, thenR, pnR, Int.reduceToNat, Int.reduceAdd, Int.reduceSub, Int.reduceLT, Int.reduceLE, Nat.reduceSub, Nat.reduceMul, Nat.reduceEqDiff, h1]) (by simp (disch := first | assumption | omega | (simp only [szR] <;> omega) | rfl | decide) only [gen0, gen1, gen2, rulesC, litR, bolR, Nat.reduceAdd, Nat.reduceLeDiff, numR, memR, valR, heapR, updR, intR, decR, extR, slR, segR, thenR, pnR, Int.reduceToNat, Int.reduceAdd, Int.reduceSub, Int.reduceLT, Int.reduceLE, Nat.reduceSub, Nat.reduceMul, Nat.reduceEqDiff, h2]) ?_
  (repeat first | assumption | exact Ext.refl | apply Ext.alloc | apply Ext.drew | (refine Ext.updN ?_ ?_; (focus first | omega | (simp only [szR] <;> omega))) | (refine Ext.updI ?_ ?_; (focus (simp; done))))
theorem one19_spec {w : World} {K : Value → World → Prop} (hK : ∀ w', Ext [] w w' → K (.bool true) w') : callsK Try.prog 17 #[] w K := by
  apply F17_ok
  unfold F17
  simp (disch := first | assumption | omega | (simp only [szR] <;> omega) | rfl | decide) only [gen0, gen1, gen2, rulesC, litR, bolR, Nat.reduceAdd, Nat.reduceLeDiff, numR, memR, valR, heapR, updR, intR, decR, extR, slR, segR, thenR, pnR, Int.reduceToNat, Int.reduceAdd, Int.reduceSub, Int.reduceLT, Int.reduceLE, Nat.reduceSub, Nat.reduceMul, Nat.reduceEqDiff]
  refine Steps_spec rfl ?_
  simp (disch := first | assumption | omega | (simp only [szR] <;> omega) | rfl | decide) only [gen0, gen1, gen2, rulesC, litR, bolR, Nat.reduceAdd, Nat.reduceLeDiff, numR, memR, valR, heapR, updR, intR, decR, extR, slR, segR, thenR, pnR, Int.reduceToNat, Int.reduceAdd, Int.reduceSub, Int.reduceLT, Int.reduceLE, Nat.reduceSub, Nat.reduceMul, Nat.reduceEqDiff]
  refine iter_spec (bs := [1, 0, 2, 5]) (S := [w.heap.size + 1 + 1, w.heap.size + 1 + 1 + 1]) (c := fun _ => true) (I := fun k w' => w'.heap[w.heap.size + 1 + 1]? = some (.cells [.int .i64 k].toArray 3 (0, 0)) ∧ w'.heap[w.heap.size + 1 + 1 + 1]? = some (.cells [.bool true].toArray 4 (0, 0)) ∧ Ext [] w w')
    (p := w.heap.size + 1) (tv := .slice (some ⟨w.heap.size, 0, none⟩) 4 4) (E := 60) ?_ ?_ (by simp) (by simp) ?_ ?_ ?_ ?_ ?_
  · simp (disch := first | assumption | omega | (simp only [szR] <;> omega) | rfl | decide) only [gen0, gen1, gen2, rulesC, litR, bolR, Nat.reduceAdd, Nat.reduceLeDiff, numR, memR, valR, heapR, updR, intR, decR, extR, slR, segR, thenR, pnR, Int.reduceToNat, Int.reduceAdd, Int.reduceSub, Int.reduceLT, Int.reduceLE, Nat.reduceSub, Nat.reduceMul, Nat.reduceEqDiff]
  · exact ⟨_, 4, rfl, ⟨Nat.le_refl _, by simp [maxLen]⟩, .inr ⟨w.heap.size, 0, [.int .u8 1, .int .u8 0, .int .u8 2, .int .u8 5], 5, (0, 0), rfl, by simp (disch := first | assumption | omega | (simp only [szR] <;> omega) | rfl | decide) only [gen0, gen1, gen2, rulesC, litR, bolR, Nat.reduceAdd, Nat.reduceLeDiff, numR, memR, valR, heapR, updR, intR, decR, extR, slR, segR, thenR, pnR, Int.reduceToNat, Int.reduceAdd, Int.reduceSub, Int.reduceLT, Int.reduceLE, Nat.reduceSub, Nat.reduceMul, Nat.reduceEqDiff], by simp, fun i r hi => by
      match i, hi with
      | 0, hi => simpa [byC, sub] using hi
      | 1, hi => simpa [byC, sub] using hi
      | 2, hi => simpa [byC, sub] using hi
      | 3, hi => simpa [byC, sub] using hi⟩⟩
  · intro _ b hb
    cases hb
    simp
    omega
  · exact ⟨by simp (disch := first | assumption | omega | (simp only [szR] <;> omega) | rfl | decide) only [gen0, gen1, gen2, rulesC, litR, bolR, Nat.reduceAdd, Nat.reduceLeDiff, numR, memR, valR, heapR, updR, intR, decR, extR, slR, segR, thenR, pnR, Int.reduceToNat, Int.reduceAdd, Int.reduceSub, Int.reduceLT, Int.reduceLE, Nat.reduceSub, Nat.reduceMul, Nat.reduceEqDiff], by simp (disch := first | assumption | omega | (simp only [szR] <;> omega) | rfl | decide) only [gen0, gen1, gen2, rulesC, litR, bolR, Nat.reduceAdd, Nat.reduceLeDiff, numR, memR, valR, heapR, updR, intR, decR, extR, slR, segR, thenR, pnR, Int.reduceToNat, Int.reduceAdd, Int.reduceSub, Int.reduceLT, Int.reduceLE, Nat.reduceSub, Nat.reduceMul, Nat.reduceEqDiff], by (repeat first | assumption | exact Ext.refl | apply Ext.alloc | apply Ext.drew | (refine Ext.updN ?_ ?_; (focus first | omega | (simp only [szR] <;> omega))) | (refine Ext.updI ?_ ?_; (focus (simp; done))))⟩
  · rintro k w1 w2 ⟨h1, h2, h3⟩ hx
    exact ⟨hx.at h1 (by simp), hx.at h2 (by simp), h3.trans hx (by simp)⟩
  · rintro k x w1 hx ⟨h1, h2, h3⟩ hxt K hK
    obtain rfl : k = 0 := by
      have := (List.getElem?_eq_some_iff.1 hx).1
      simp [stepsOf] at this
      omega
    obtain rfl : x = ⟨1, 0, 2⟩ := by
      simp [stepsOf, stepOf] at hx
      exact hx.symm
    simp (disch := first | assumption | omega | (simp only [szR] <;> omega) | rfl | decide) only [gen0, gen1, gen2, rulesC, litR, bolR, Nat.reduceAdd, Nat.reduceLeDiff, numR, memR, valR, heapR, updR, intR, decR, extR, slR, segR, thenR, pnR, Int.reduceToNat, Int.reduceAdd, Int.reduceSub, Int.reduceLT, Int.reduceLE, Nat.reduceSub, Nat.reduceMul, Nat.reduceEqDiff]
    refine c52_spec h1 h2 (by omega) fun w2 g1 g2 g3 => ?_
    exact hK w2 ⟨g1, g2, h3.trans g3 (by simp; omega)⟩ g3
  · rintro k w1 hk ⟨h1, h2, h3⟩ hxt hd
    have hk1 : k = 1 := by
      rcases hd with ⟨h, -⟩ | ⟨-, h, -⟩
      · exact h
      · cases h
    subst hk1
    simp (disch := first | assumption | omega | (simp only [szR] <;> omega) | rfl | decide) only [gen0, gen1, gen2, rulesC, litR, bolR, Nat.reduceAdd, Nat.reduceLeDiff, numR, memR, valR, heapR, updR, intR, decR, extR, slR, segR, thenR, pnR, Int.reduceToNat, Int.reduceAdd, Int.reduceSub, Int.reduceLT, Int.reduceLE, Nat.reduceSub, Nat.reduceMul, Nat.reduceEqDiff, joinBR, h1, h2]
    exact hK _ h3
end Go.Proofs.Ytgnibcaflidjmaa
