/- What is fixed of an instruction's word, by its row; conditions: those of each theorem. -/
import Derived.Test.YtobkjnmdbkieeaaDoorFixI
namespace Go.Proofs.YtobkjnmdbkieeaaDoor
open Go.Fx
set_option maxRecDepth 100000
set_option linter.unusedSimpArgs false
set_option linter.unusedVariables false
theorem put_lt {x a k v b : Nat} (h : x < 2 ^ a) (h2 : a + k ≤ b) : putN x (a, k, v) < 2 ^ b := by
  rw [putN_eq]
  have h3 : v % 2 ^ k < 2 ^ k := Nat.mod_lt _ (Nat.two_pow_pos k)
  have h4 : v % 2 ^ k * 2 ^ a + 2 ^ a ≤ 2 ^ k * 2 ^ a := by
    have := Nat.mul_le_mul_right (2 ^ a) h3
    rwa [Nat.succ_mul] at this
  have h5 : 2 ^ k * 2 ^ a ≤ 2 ^ b := by
    rw [← Nat.pow_add]
    exact Nat.pow_le_pow_right (by omega) (by omega)
  omega
theorem ptk {a k v : Nat} (h : 0 < k ∧ k < 64 ∧ a + k ≤ 64) (hv : v < 18446744073709551616) : ptOk (a, k, v) := ⟨h.1, h.2.1, h.2.2, hv⟩
def rwOk (r : Rw) : Prop := r.s < 256 ∧ r.c < 18446744073709551616 ∧ r.f < 18446744073709551616 ∧ r.o < 18446744073709551616
theorem put_ltm {x a k v b : Nat} (h : x < 2 ^ a) (h2 : a + k ≤ b) : putN x (msk (a, k, v)) < 2 ^ b := put_lt (v := ones) h h2
theorem put7m (v : Nat) : putN 0 (msk (0, 7, v)) < 2 ^ 7 := put_ltm (b := 7) (Nat.two_pow_pos _) (by decide)
theorem put7 (v : Nat) : putN 0 (0, 7, v) < 2 ^ 7 := put_lt (b := 7) (Nat.two_pow_pos _) (by decide)
theorem up7 {x : Nat} (h : x < 2 ^ 7) : x < 2 ^ 12 := Nat.lt_of_lt_of_le h (Nat.pow_le_pow_right (by decide) (by decide))
set_option maxHeartbeats 1000000 in
theorem fixed_spec {w : World} {r : Rw} (hr : rwOk r) {K : Value → World → Prop} (hK : ∀ w', Ext [] w w' → K (.tuple #[.int .u64 (fixW r : Nat), .int .u64 (fixM r : Nat)]) w') : callsK Tryd.prog 15 #[.agg (rwC r).toArray] w K := by
  obtain ⟨hs, hc, hf, ho⟩ := hr
  apply F15_ok
  unfold F15
  have r1 : (rwC r)[1]? = some (.int .u8 (r.s : Nat)) := rfl
  have r2 : (rwC r)[2]? = some (.int .u64 (r.c : Nat)) := rfl
  have r3 : (rwC r)[3]? = some (.int .u64 (r.f : Nat)) := rfl
  have r4 : (rwC r)[4]? = some (.int .u64 (r.o : Nat)) := rfl
  have hx0 : Ext [] w (((w.alloc (.cells (rwC r).toArray 44)).alloc (.cells [.int .u64 0].toArray 42)).alloc (.cells [.int .u64 0].toArray 42)) := by (repeat first | assumption | exact Ext.refl | apply Ext.alloc | apply Ext.drew | (refine Ext.updN ?_ ?_; (focus first | omega | (simp only [szR] <;> omega))) | (refine Ext.updI ?_ ?_; (focus (simp; done))))
  have g0 : (((w.alloc (.cells (rwC r).toArray 44)).alloc (.cells [.int .u64 0].toArray 42)).alloc (.cells [.int .u64 0].toArray 42)).heap[w.heap.size]? = some (.cells (rwC r).toArray 44 (0, 0)) := by simp (disch := first | assumption | omega | (simp only [szR, rwC_len, rwC_all, rwsC_len, rwsC_all, ptC_len, ptC_all] <;> omega) | rfl | decide) only [gen0, gen1, gen2, rulesC, rulesX, litR, bolR, Nat.reduceAdd, Nat.reduceLeDiff, numR, memR, valR, heapR, updR, intR, decR, extR, slR, segR, thenR, pnR, Int.reduceToNat, Int.reduceAdd, Int.reduceSub, Int.reduceLT, Int.reduceLE, Nat.reduceSub, Nat.reduceMul, Nat.reduceEqDiff]
  have g1 : (((w.alloc (.cells (rwC r).toArray 44)).alloc (.cells [.int .u64 0].toArray 42)).alloc (.cells [.int .u64 0].toArray 42)).heap[w.heap.size + 1]? = some (.cells [.int .u64 ((0 : Nat) : Int)].toArray 42 (0, 0)) := by simp (disch := first | assumption | omega | (simp only [szR, rwC_len, rwC_all, rwsC_len, rwsC_all, ptC_len, ptC_all] <;> omega) | rfl | decide) only [gen0, gen1, gen2, rulesC, rulesX, litR, bolR, Nat.reduceAdd, Nat.reduceLeDiff, numR, memR, valR, heapR, updR, intR, decR, extR, slR, segR, thenR, pnR, Int.reduceToNat, Int.reduceAdd, Int.reduceSub, Int.reduceLT, Int.reduceLE, Nat.reduceSub, Nat.reduceMul, Nat.reduceEqDiff]
  have g2 : (((w.alloc (.cells (rwC r).toArray 44)).alloc (.cells [.int .u64 0].toArray 42)).alloc (.cells [.int .u64 0].toArray 42)).heap[w.heap.size + 2]? = some (.cells [.int .u64 ((0 : Nat) : Int)].toArray 42 (0, 0)) := by simp (disch := first | assumption | omega | (simp only [szR, rwC_len, rwC_all, rwsC_len, rwsC_all, ptC_len, ptC_all] <;> omega) | rfl | decide) only [gen0, gen1, gen2, rulesC, rulesX, litR, bolR, Nat.reduceAdd, Nat.reduceLeDiff, numR, memR, valR, heapR, updR, intR, decR, extR, slR, segR, thenR, pnR, Int.reduceToNat, Int.reduceAdd, Int.reduceSub, Int.reduceLT, Int.reduceLE, Nat.reduceSub, Nat.reduceMul, Nat.reduceEqDiff]
  simp (disch := first | assumption | omega | (simp only [szR, rwC_len, rwC_all, rwsC_len, rwsC_all, ptC_len, ptC_all] <;> omega) | rfl | decide) only [gen0, gen1, gen2, rulesC, rulesX, litR, bolR, Nat.reduceAdd, Nat.reduceLeDiff, numR, memR, valR, heapR, updR, intR, decR, extR, slR, segR, thenR, pnR, Int.reduceToNat, Int.reduceAdd, Int.reduceSub, Int.reduceLT, Int.reduceLE, Nat.reduceSub, Nat.reduceMul, Nat.reduceEqDiff, r2]
  have hne : w.heap.size + 1 ≠ w.heap.size + 2 := by omega
  refine putF_spec (p := (0, 7, r.c)) (ptk (by decide) hc) (Nat.two_pow_pos _) (Nat.two_pow_pos _) hne g1 g2 fun w1 h1 h2 hx1 => ?_
  have h0 := hx1.at g0 (by simp)
  have l0 := lt_of_at h0
  have l1 := lt_of_at h1
  have l2 := lt_of_at h2
  have hxa : Ext [] w w1 := hx0.trans hx1 (by intro k hk; simp at hk; omega)
  clear g0 g1 g2 hx0 hx1
  have p1 := put7 r.c
  have p2 := put7m r.c
  have back : ∀ (w2 w3 : World), Ext [w.heap.size + 1, w.heap.size + 2] w2 w3 → Ext [] w w2 → Ext [] w w3 := fun w2 w3 h h' => h'.trans h (by intro k hk; simp at hk; omega)
  simp (disch := first | assumption | omega | (simp only [szR, rwC_len, rwC_all, rwsC_len, rwsC_all, ptC_len, ptC_all] <;> omega) | rfl | decide) only [gen0, gen1, gen2, rulesC, rulesX, litR, bolR, Nat.reduceAdd, Nat.reduceLeDiff, numR, memR, valR, heapR, updR, intR, decR, extR, slR, segR, thenR, pnR, Int.reduceToNat, Int.reduceAdd, Int.reduceSub, Int.reduceLT, Int.reduceLE, Nat.reduceSub, Nat.reduceMul, Nat.reduceEqDiff, h0, r1]
  refine joinL.intro fun J0 hJ0 => ?_
  have hW : fixW r = (fxP r).foldl putN 0 := rfl
  have hM : fixM r = ((fxP r).map msk).foldl putN 0 := rfl
  by_cases s1 : r.s = 85 ∨ r.s = 74
  · have hP : fxP r = [(0, 7, r.c)] := by unfold fxP; rw [if_pos s1]
    rw [hP] at hW hM
    rw [List.foldl_cons, List.foldl_nil] at hW
    rw [List.map_cons, List.map_nil, List.foldl_cons, List.foldl_nil] at hM
    have hfin : J0 [.bool true] w1 := by
      apply hJ0
      intro _
      refine .inl ⟨rfl, ?_⟩
      refine fixEnd hne (by omega) h1 h2 fun w2 hx2 => ?_
      rw [← hW, ← hM]
      exact hK w2 (back _ _ hx2 hxa)
    by_cases s2 : r.s = 85
    · simp (disch := first | assumption | omega | (simp only [szR, rwC_len, rwC_all, rwsC_len, rwsC_all, ptC_len, ptC_all] <;> omega) | rfl | decide) only [gen0, gen1, gen2, rulesC, rulesX, litR, bolR, Nat.reduceAdd, Nat.reduceLeDiff, numR, memR, valR, heapR, updR, intR, decR, extR, slR, segR, thenR, pnR, Int.reduceToNat, Int.reduceAdd, Int.reduceSub, Int.reduceLT, Int.reduceLE, Nat.reduceSub, Nat.reduceMul, Nat.reduceEqDiff, s2]
      exact hfin
    · have s3 : r.s = 74 := by omega
      simp (disch := first | assumption | omega | (simp only [szR, rwC_len, rwC_all, rwsC_len, rwsC_all, ptC_len, ptC_all] <;> omega) | rfl | decide) only [gen0, gen1, gen2, rulesC, rulesX, litR, bolR, Nat.reduceAdd, Nat.reduceLeDiff, numR, memR, valR, heapR, updR, intR, decR, extR, slR, segR, thenR, pnR, Int.reduceToNat, Int.reduceAdd, Int.reduceSub, Int.reduceLT, Int.reduceLE, Nat.reduceSub, Nat.reduceMul, Nat.reduceEqDiff, s3]
      exact hfin
  · have s2 : r.s ≠ 85 := fun h => s1 (.inl h)
    have s3 : r.s ≠ 74 := fun h => s1 (.inr h)
    simp (disch := first | assumption | omega | (simp only [szR, rwC_len, rwC_all, rwsC_len, rwsC_all, ptC_len, ptC_all] <;> omega) | rfl | decide) only [gen0, gen1, gen2, rulesC, rulesX, litR, bolR, Nat.reduceAdd, Nat.reduceLeDiff, numR, memR, valR, heapR, updR, intR, decR, extR, slR, segR, thenR, pnR, Int.reduceToNat, Int.reduceAdd, Int.reduceSub, Int.reduceLT, Int.reduceLE, Nat.reduceSub, Nat.reduceMul, Nat.reduceEqDiff]
    apply hJ0
    intro _
    refine .inr ⟨rfl, ?_⟩
    have step : ∀ (w2 : World) (x y a k v : Nat) (K' : Value → World → Prop), w2.heap[w.heap.size]? = some (.cells (rwC r).toArray 44 (0, 0)) → w2.heap[w.heap.size + 1]? = some (.cells [.int .u64 (x : Nat)].toArray 42 (0, 0)) → w2.heap[w.heap.size + 2]? = some (.cells [.int .u64 (y : Nat)].toArray 42 (0, 0)) → Ext [] w w2 → ptOk (a, k, v) → x < 2 ^ a → y < 2 ^ a →
        (∀ w3, w3.heap[w.heap.size]? = some (.cells (rwC r).toArray 44 (0, 0)) → w3.heap[w.heap.size + 1]? = some (.cells [.int .u64 (putN x (a, k, v) : Nat)].toArray 42 (0, 0)) → w3.heap[w.heap.size + 2]? = some (.cells [.int .u64 (putN y (msk (a, k, v)) : Nat)].toArray 42 (0, 0)) → Ext [] w w3 → K' (.tuple #[]) w3) →
        callsK Tryd.prog 40 #[.int .i64 (a : Nat), .int .i64 (k : Nat), .int .u64 (v : Nat), .pointer (some ⟨w.heap.size + 1, 0, none⟩), .pointer (some ⟨w.heap.size + 2, 0, none⟩)] w2 K' :=
      fun w2 x y a k v K' a0 a1 a2 ax ap bx by' hk => putF_spec (p := (a, k, v)) ap bx by' hne a1 a2 fun w3 c1 c2 cx => hk w3 (cx.at a0 (by simp)) c1 c2 (back _ _ cx ax)
    by_cases s4 : r.s = 78
    · have hP : fxP r = [(0, 7, r.c), (7, 13, 0), (20, 12, r.o)] := by unfold fxP; rw [if_neg s1, if_pos s4]
      rw [hP] at hW hM
      rw [List.foldl_cons, List.foldl_cons, List.foldl_cons, List.foldl_nil] at hW
      rw [List.map_cons, List.map_cons, List.map_cons, List.map_nil, List.foldl_cons, List.foldl_cons, List.foldl_cons, List.foldl_nil] at hM
      simp (disch := first | assumption | omega | (simp only [szR, rwC_len, rwC_all, rwsC_len, rwsC_all, ptC_len, ptC_all] <;> omega) | rfl | decide) only [gen0, gen1, gen2, rulesC, rulesX, litR, bolR, Nat.reduceAdd, Nat.reduceLeDiff, numR, memR, valR, heapR, updR, intR, decR, extR, slR, segR, thenR, pnR, Int.reduceToNat, Int.reduceAdd, Int.reduceSub, Int.reduceLT, Int.reduceLE, Nat.reduceSub, Nat.reduceMul, Nat.reduceEqDiff, s4]
      refine step w1 _ _ 7 13 0 _ h0 h1 h2 hxa (ptk (by decide) (by decide)) p1 p2 fun w2 a0 a1 a2 ax => ?_
      have m0 := lt_of_at a0
      simp (disch := first | assumption | omega | (simp only [szR, rwC_len, rwC_all, rwsC_len, rwsC_all, ptC_len, ptC_all] <;> omega) | rfl | decide) only [gen0, gen1, gen2, rulesC, rulesX, litR, bolR, Nat.reduceAdd, Nat.reduceLeDiff, numR, memR, valR, heapR, updR, intR, decR, extR, slR, segR, thenR, pnR, Int.reduceToNat, Int.reduceAdd, Int.reduceSub, Int.reduceLT, Int.reduceLE, Nat.reduceSub, Nat.reduceMul, Nat.reduceEqDiff, a0, r4]
      refine step w2 _ _ 20 12 r.o _ a0 a1 a2 ax (ptk (by decide) ho) (put_lt (b := 20) p1 (by decide)) (put_ltm (b := 20) p2 (by decide)) fun w3 b0 b1 b2 bx => ?_
      rw [← hW] at b1
      rw [← hM] at b2
      exact fixEnd hne (by omega) b1 b2 fun w4 hx4 => hK w4 (back _ _ hx4 bx)
    · simp (disch := first | assumption | omega | (simp only [szR, rwC_len, rwC_all, rwsC_len, rwsC_all, ptC_len, ptC_all] <;> omega) | rfl | decide) only [gen0, gen1, gen2, rulesC, rulesX, litR, bolR, Nat.reduceAdd, Nat.reduceLeDiff, numR, memR, valR, heapR, updR, intR, decR, extR, slR, segR, thenR, pnR, Int.reduceToNat, Int.reduceAdd, Int.reduceSub, Int.reduceLT, Int.reduceLE, Nat.reduceSub, Nat.reduceMul, Nat.reduceEqDiff, h0, r3]
      have q1 := up7 p1
      have q2 := up7 p2
      refine step w1 _ _ 12 3 r.f _ h0 h1 h2 hxa (ptk (by decide) hf) q1 q2 fun w2 a0 a1 a2 ax => ?_
      have m0 := lt_of_at a0
      refine joinL.intro fun J8 hJ8 => ?_
      have fin8 : ∀ (x y : Nat), fixW r = x → fixM r = y → ∀ (w3 : World), w3.heap[w.heap.size + 1]? = some (.cells [.int .u64 (x : Nat)].toArray 42 (0, 0)) → w3.heap[w.heap.size + 2]? = some (.cells [.int .u64 (y : Nat)].toArray 42 (0, 0)) → Ext [] w w3 → J8 [] w3 := by
        intro x y hx hy w3 c1 c2 cx
        apply hJ8
        intro _
        rw [← hx] at c1
        rw [← hy] at c2
        exact fixEnd hne (by omega) c1 c2 fun w4 hx4 => hK w4 (back _ _ hx4 cx)
      by_cases s5 : r.s = 82
      · have hP : fxP r = [(0, 7, r.c), (12, 3, r.f), (25, 7, r.o)] := by unfold fxP; rw [if_neg s1, if_neg s4, if_pos s5]
        rw [hP] at hW hM
        rw [List.foldl_cons, List.foldl_cons, List.foldl_cons, List.foldl_nil] at hW
        rw [List.map_cons, List.map_cons, List.map_cons, List.map_nil, List.foldl_cons, List.foldl_cons, List.foldl_cons, List.foldl_nil] at hM
        simp (disch := first | assumption | omega | (simp only [szR, rwC_len, rwC_all, rwsC_len, rwsC_all, ptC_len, ptC_all] <;> omega) | rfl | decide) only [gen0, gen1, gen2, rulesC, rulesX, litR, bolR, Nat.reduceAdd, Nat.reduceLeDiff, numR, memR, valR, heapR, updR, intR, decR, extR, slR, segR, thenR, pnR, Int.reduceToNat, Int.reduceAdd, Int.reduceSub, Int.reduceLT, Int.reduceLE, Nat.reduceSub, Nat.reduceMul, Nat.reduceEqDiff, a0, r1, r4, s5]
        refine step w2 _ _ 25 7 r.o _ a0 a1 a2 ax (ptk (by decide) ho) (put_lt (b := 25) q1 (by decide)) (put_ltm (b := 25) q2 (by decide)) fun w3 b0 b1 b2 bx => ?_
        exact fin8 _ _ hW hM w3 b1 b2 bx
      · by_cases s6 : r.s = 71
        · have hP : fxP r = [(0, 7, r.c), (12, 3, r.f), (20, 5, r.o), (25, 7, 127)] := by unfold fxP; rw [if_neg s1, if_neg s4, if_neg s5, if_pos s6]
          rw [hP] at hW hM
          rw [List.foldl_cons, List.foldl_cons, List.foldl_cons, List.foldl_cons, List.foldl_nil] at hW
          rw [List.map_cons, List.map_cons, List.map_cons, List.map_cons, List.map_nil, List.foldl_cons, List.foldl_cons, List.foldl_cons, List.foldl_cons, List.foldl_nil] at hM
          simp (disch := first | assumption | omega | (simp only [szR, rwC_len, rwC_all, rwsC_len, rwsC_all, ptC_len, ptC_all] <;> omega) | rfl | decide) only [gen0, gen1, gen2, rulesC, rulesX, litR, bolR, Nat.reduceAdd, Nat.reduceLeDiff, numR, memR, valR, heapR, updR, intR, decR, extR, slR, segR, thenR, pnR, Int.reduceToNat, Int.reduceAdd, Int.reduceSub, Int.reduceLT, Int.reduceLE, Nat.reduceSub, Nat.reduceMul, Nat.reduceEqDiff, a0, r1, r4, s6]
          refine step w2 _ _ 20 5 r.o _ a0 a1 a2 ax (ptk (by decide) ho) (put_lt (b := 20) q1 (by decide)) (put_ltm (b := 20) q2 (by decide)) fun w3 b0 b1 b2 bx => ?_
          refine step w3 _ _ 25 7 127 _ b0 b1 b2 bx (ptk (by decide) (by decide)) (put_lt (b := 25) (put_lt (b := 20) q1 (by decide)) (by decide)) (put_ltm (b := 25) (put_ltm (b := 20) q2 (by decide)) (by decide)) fun w4 c0 c1 c2 cx => ?_
          exact fin8 _ _ hW hM w4 c1 c2 cx
        · by_cases s7 : r.s = 72
          · have hP : fxP r = [(0, 7, r.c), (12, 3, r.f), (26, 6, r.o)] := by unfold fxP; rw [if_neg s1, if_neg s4, if_neg s5, if_neg s6, if_pos s7]
            rw [hP] at hW hM
            rw [List.foldl_cons, List.foldl_cons, List.foldl_cons, List.foldl_nil] at hW
            rw [List.map_cons, List.map_cons, List.map_cons, List.map_nil, List.foldl_cons, List.foldl_cons, List.foldl_cons, List.foldl_nil] at hM
            simp (disch := first | assumption | omega | (simp only [szR, rwC_len, rwC_all, rwsC_len, rwsC_all, ptC_len, ptC_all] <;> omega) | rfl | decide) only [gen0, gen1, gen2, rulesC, rulesX, litR, bolR, Nat.reduceAdd, Nat.reduceLeDiff, numR, memR, valR, heapR, updR, intR, decR, extR, slR, segR, thenR, pnR, Int.reduceToNat, Int.reduceAdd, Int.reduceSub, Int.reduceLT, Int.reduceLE, Nat.reduceSub, Nat.reduceMul, Nat.reduceEqDiff, a0, r1, r4, s7]
            refine step w2 _ _ 26 6 r.o _ a0 a1 a2 ax (ptk (by decide) ho) (put_lt (b := 26) q1 (by decide)) (put_ltm (b := 26) q2 (by decide)) fun w3 b0 b1 b2 bx => ?_
            exact fin8 _ _ hW hM w3 b1 b2 bx
          · have hP : fxP r = [(0, 7, r.c), (12, 3, r.f)] := by unfold fxP; rw [if_neg s1, if_neg s4, if_neg s5, if_neg s6, if_neg s7]
            rw [hP] at hW hM
            rw [List.foldl_cons, List.foldl_cons, List.foldl_nil] at hW
            rw [List.map_cons, List.map_cons, List.map_nil, List.foldl_cons, List.foldl_cons, List.foldl_nil] at hM
            simp (disch := first | assumption | omega | (simp only [szR, rwC_len, rwC_all, rwsC_len, rwsC_all, ptC_len, ptC_all] <;> omega) | rfl | decide) only [gen0, gen1, gen2, rulesC, rulesX, litR, bolR, Nat.reduceAdd, Nat.reduceLeDiff, numR, memR, valR, heapR, updR, intR, decR, extR, slR, segR, thenR, pnR, Int.reduceToNat, Int.reduceAdd, Int.reduceSub, Int.reduceLT, Int.reduceLE, Nat.reduceSub, Nat.reduceMul, Nat.reduceEqDiff, a0, r1]
            exact fin8 _ _ hW hM w2 a1 a2 ax
end Go.Proofs.YtobkjnmdbkieeaaDoor
