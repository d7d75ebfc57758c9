/- What is fixed of an instruction's word; conditions: those of each theorem. -/
import Derived.Test.YtobkjnmdbkieeaaDoorRowsI
namespace Go.Proofs.YtobkjnmdbkieeaaDoor
open Go.Fx
set_option maxRecDepth 100000
set_option linter.unusedSimpArgs false
set_option linter.unusedVariables false
def ones : Nat := 18446744073709551615
/-- a part's mask. -/
def msk (p : Nat × Nat × Nat) : Nat × Nat × Nat := (p.1, p.2.1, ones)
theorem putF_spec {w : World} {x y b1 b2 : Nat} {p : Nat × Nat × Nat} (hp : ptOk p) (hx : x < 2 ^ p.1) (hy : y < 2 ^ p.1) (hne : b1 ≠ b2) (h1 : w.heap[b1]? = some (.cells [.int .u64 (x : Nat)].toArray 42 (0, 0))) (h2 : w.heap[b2]? = some (.cells [.int .u64 (y : Nat)].toArray 42 (0, 0))) {K : Value → World → Prop}
    (hK : ∀ w', w'.heap[b1]? = some (.cells [.int .u64 (putN x p : Nat)].toArray 42 (0, 0)) → w'.heap[b2]? = some (.cells [.int .u64 (putN y (msk p) : Nat)].toArray 42 (0, 0)) → Ext [b1, b2] w w' → K (.tuple #[]) w') :
    callsK Tryd.prog 40 #[.int .i64 (p.1 : Nat), .int .i64 (p.2.1 : Nat), .int .u64 (p.2.2 : Nat), .pointer (some ⟨b1, 0, none⟩), .pointer (some ⟨b2, 0, none⟩)] w K := by
  obtain ⟨q1, q2, q3, q4⟩ := hp
  apply F40_ok
  unfold F40
  rw [drewK_eq]
  have hd0 : Ext [] w w.drew := by (repeat first | assumption | exact Ext.refl | apply Ext.alloc | apply Ext.drew | (refine Ext.updN ?_ ?_; (focus first | omega | (simp only [szR] <;> omega))) | (refine Ext.updI ?_ ?_; (focus (simp; done))))
  replace hK : ∀ w', w'.heap[b1]? = some (.cells [.int .u64 (putN x p : Nat)].toArray 42 (0, 0)) → w'.heap[b2]? = some (.cells [.int .u64 (putN y (msk p) : Nat)].toArray 42 (0, 0)) → Ext [b1, b2] w.drew w' → K (.tuple #[]) w' := fun w' a b h => hK w' a b (Ext.step (hd0.mono nofun) h)
  replace h1 := hd0.at h1 (by simp)
  replace h2 := hd0.at h2 (by simp)
  clear hd0
  generalize w.drew = w at *
  refine relX.ext [] ?_
  refine postX.is (.int .u64 (x : Nat)) (fun v w' hR _ => by
    have e := hR.at h1 (by simp)
    simp (disch := first | assumption | omega | (simp only [szR, rwC_len, rwC_all, rwsC_len, rwsC_all, ptC_len, ptC_all] <;> omega) | rfl | decide) only [gen0, gen1, gen2, rulesC, rulesX, litR, bolR, Nat.reduceAdd, Nat.reduceLeDiff, numR, memR, valR, heapR, updR, intR, decR, extR, slR, segR, thenR, pnR, Int.reduceToNat, Int.reduceAdd, Int.reduceSub, Int.reduceLT, Int.reduceLE, Nat.reduceSub, Nat.reduceMul, Nat.reduceEqDiff, e]
    exact okX.is) ?_
  refine postX.is (.int .i64 (p.1 : Nat)) (fun v w' hR _ => okX.is) ?_
  refine postX.is (.int .i64 (p.2.1 : Nat)) (fun v w' hR _ => okX.is) ?_
  refine postX.is (.int .u64 (p.2.2 : Nat)) (fun v w' hR _ => okX.is) ?_
  refine postX.is (.int .u64 (putN x p : Nat)) (fun v w' hR hd => by
    obtain ⟨d1, d2, d3, d4, -⟩ := hd
    simp (disch := first | assumption | omega | (simp only [szR, rwC_len, rwC_all, rwsC_len, rwsC_all, ptC_len, ptC_all] <;> omega) | rfl | decide) only [gen0, gen1, gen2, rulesC, rulesX, litR, bolR, Nat.reduceAdd, Nat.reduceLeDiff, numR, memR, valR, heapR, updR, intR, decR, extR, slR, segR, thenR, pnR, Int.reduceToNat, Int.reduceAdd, Int.reduceSub, Int.reduceLT, Int.reduceLE, Nat.reduceSub, Nat.reduceMul, Nat.reduceEqDiff, d1, d2, d3, d4]
    exact fPut_spec (by omega) (by omega) (by omega) (by simpa using hx) q4 fun w'' hx => okX.mk hx rfl) ?_
  refine postX.is (.int .u64 (y : Nat)) (fun v w' hR _ => by
    have e := hR.at h2 (by simp)
    simp (disch := first | assumption | omega | (simp only [szR, rwC_len, rwC_all, rwsC_len, rwsC_all, ptC_len, ptC_all] <;> omega) | rfl | decide) only [gen0, gen1, gen2, rulesC, rulesX, litR, bolR, Nat.reduceAdd, Nat.reduceLeDiff, numR, memR, valR, heapR, updR, intR, decR, extR, slR, segR, thenR, pnR, Int.reduceToNat, Int.reduceAdd, Int.reduceSub, Int.reduceLT, Int.reduceLE, Nat.reduceSub, Nat.reduceMul, Nat.reduceEqDiff, e]
    exact okX.is) ?_
  refine postX.is (.int .i64 (p.1 : Nat)) (fun v w' hR _ => okX.is) ?_
  refine postX.is (.int .i64 (p.2.1 : Nat)) (fun v w' hR _ => okX.is) ?_
  intro v w1 hR hd _
  obtain ⟨-, -, -, -, d12, d13, d14, d15, -⟩ := hd
  rw [d12, d13, d14, d15]
  simp (disch := first | assumption | omega | (simp only [szR, rwC_len, rwC_all, rwsC_len, rwsC_all, ptC_len, ptC_all] <;> omega) | rfl | decide) only [gen0, gen1, gen2, rulesC, rulesX, litR, bolR, Nat.reduceAdd, Nat.reduceLeDiff, numR, memR, valR, heapR, updR, intR, decR, extR, slR, segR, thenR, pnR, Int.reduceToNat, Int.reduceAdd, Int.reduceSub, Int.reduceLT, Int.reduceLE, Nat.reduceSub, Nat.reduceMul, Nat.reduceEqDiff]
  refine fPut_spec (v := ones) (by omega) (by omega) (by omega) (by simpa using hy) (by decide) fun w2 hx2 => ?_
  have hx3 := hR.trans hx2 (by simp)
  have k1 := hx3.at h1 (by simp)
  have k2 := hx3.at h2 (by simp)
  have l1 := lt_of_at k1
  have l2 := lt_of_at k2
  have m2 : (World.upd w2 b1 [.int .u64 (putN x p : Nat)]).heap[b2]? = some (.cells [.int .u64 (y : Nat)].toArray 42 (0, 0)) := (upd_ne (Ne.symm hne)).trans k2
  simp (disch := first | assumption | omega | (simp only [szR, rwC_len, rwC_all, rwsC_len, rwsC_all, ptC_len, ptC_all] <;> omega) | rfl | decide) only [gen0, gen1, gen2, rulesC, rulesX, litR, bolR, Nat.reduceAdd, Nat.reduceLeDiff, numR, memR, valR, heapR, updR, intR, decR, extR, slR, segR, thenR, pnR, Int.reduceToNat, Int.reduceAdd, Int.reduceSub, Int.reduceLT, Int.reduceLE, Nat.reduceSub, Nat.reduceMul, Nat.reduceEqDiff, k1, m2, List.set_cons_zero]
  have hx4 : Ext [b1, b2] w (World.upd (World.upd w2 b1 [.int .u64 (putN x p : Nat)]) b2 [.int .u64 (putN y (msk p) : Nat)]) := by
    have hx5 : Ext [b1, b2] w w2 := hx3.mono nofun
    (repeat first | assumption | exact Ext.refl | apply Ext.alloc | apply Ext.drew | (refine Ext.updN ?_ ?_; (focus first | omega | (simp only [szR] <;> omega))) | (refine Ext.updI ?_ ?_; (focus (simp; done))))
  exact hK _ ((upd_ne hne).trans (upd_at k1)) (upd_at m2) hx4
/-- what lays a row's fixed parts. -/
def fxP (r : Rw) : List (Nat × Nat × Nat) := (0, 7, r.c) :: if r.s = 85 ∨ r.s = 74 then [] else if r.s = 78 then [(7, 13, 0), (20, 12, r.o)] else (12, 3, r.f) :: if r.s = 82 then [(25, 7, r.o)] else if r.s = 71 then [(20, 5, r.o), (25, 7, 127)] else if r.s = 72 then [(26, 6, r.o)] else []
def fixW (r : Rw) : Nat := (fxP r).foldl putN 0
def fixM (r : Rw) : Nat := ((fxP r).map msk).foldl putN 0
theorem fixEnd {w : World} {b2 b3 x y i j : Nat} (hne : b2 ≠ b3) (hij : i ≠ j) (h2 : w.heap[b2]? = some (.cells [.int .u64 (x : Nat)].toArray 42 (0, 0))) (h3 : w.heap[b3]? = some (.cells [.int .u64 (y : Nat)].toArray 42 (0, 0))) {K : Value → World → Prop} (hK : ∀ w', Ext [b2, b3] w w' → K (.tuple #[.int .u64 (x : Nat), .int .u64 (y : Nat)]) w') :
    drewK (fun w =>
  relX fun R2 =>
  postX R2 (fun p2_15 => allX R2 w fun V2 w => True → kV Tryd.prog (Instr.loadAt 42 (.pointer (some ⟨b2, 0, none⟩))) w (okX R2 w p2_15)) fun p2_15 =>
  postX R2 (fun p2_16 => allX R2 w fun V2 w => True → kV Tryd.prog (Instr.loadAt 42 (.pointer (some ⟨b3, 0, none⟩))) w (okX R2 w p2_16)) fun p2_16 =>
  postX R2 (fun p2_n2 => allX R2 w fun V2 w => p2_15 (V2 i) w ∧ True → kU Tryd.prog (Instr.storeAt 42 (.pointer (some ⟨b2, 0, none⟩)) (V2 i)) w (okX R2 w p2_n2)) fun p2_n2 =>
  allX R2 w fun V2 w => p2_15 (V2 i) w ∧ p2_16 (V2 j) w ∧ (∃ u, p2_n2 u w) ∧ True → xDist V2 [] →
  kU Tryd.prog (Instr.storeAt 42 (.pointer (some ⟨b3, 0, none⟩)) (V2 j)) w fun _ w =>
  retV Tryd.prog 42 (.pointer (some ⟨b2, 0, none⟩)) w fun r3 =>
  retV Tryd.prog 42 (.pointer (some ⟨b3, 0, none⟩)) w fun r4 =>
  K (.tuple #[r3, r4]) w) w := by
  rw [drewK_eq]
  have hd0 : Ext [b2, b3] w w.drew := by (repeat first | assumption | exact Ext.refl | apply Ext.alloc | apply Ext.drew | (refine Ext.updN ?_ ?_; (focus first | omega | (simp only [szR] <;> omega))) | (refine Ext.updI ?_ ?_; (focus (simp; done))))
  have hd1 : Ext [] w w.drew := by (repeat first | assumption | exact Ext.refl | apply Ext.alloc | apply Ext.drew | (refine Ext.updN ?_ ?_; (focus first | omega | (simp only [szR] <;> omega))) | (refine Ext.updI ?_ ?_; (focus (simp; done))))
  replace hK : ∀ w', Ext [b2, b3] w.drew w' → K (.tuple #[.int .u64 (x : Nat), .int .u64 (y : Nat)]) w' := fun w' h => hK w' (hd0.step h)
  replace h2 := hd1.at h2 (by simp)
  replace h3 := hd1.at h3 (by simp)
  clear hd0 hd1
  generalize w.drew = w at *
  refine relX.keep [b2] b2 (.cells [.int .u64 (x : Nat)].toArray 42 (0, 0)) ?_
  refine postX.is (.int .u64 (x : Nat)) (fun v w' hR _ => by
    have e := hR.2 h2
    simp (disch := first | assumption | omega | (simp only [szR, rwC_len, rwC_all, rwsC_len, rwsC_all, ptC_len, ptC_all] <;> omega) | rfl | decide) only [gen0, gen1, gen2, rulesC, rulesX, litR, bolR, Nat.reduceAdd, Nat.reduceLeDiff, numR, memR, valR, heapR, updR, intR, decR, extR, slR, segR, thenR, pnR, Int.reduceToNat, Int.reduceAdd, Int.reduceSub, Int.reduceLT, Int.reduceLE, Nat.reduceSub, Nat.reduceMul, Nat.reduceEqDiff, e]
    exact okX.mk ⟨Ext.refl, id⟩ rfl) ?_
  refine postX.is (.int .u64 (y : Nat)) (fun v w' hR _ => by
    have e := hR.1.at h3 (by simpa using Ne.symm hne)
    simp (disch := first | assumption | omega | (simp only [szR, rwC_len, rwC_all, rwsC_len, rwsC_all, ptC_len, ptC_all] <;> omega) | rfl | decide) only [gen0, gen1, gen2, rulesC, rulesX, litR, bolR, Nat.reduceAdd, Nat.reduceLeDiff, numR, memR, valR, heapR, updR, intR, decR, extR, slR, segR, thenR, pnR, Int.reduceToNat, Int.reduceAdd, Int.reduceSub, Int.reduceLT, Int.reduceLE, Nat.reduceSub, Nat.reduceMul, Nat.reduceEqDiff, e]
    exact okX.mk ⟨Ext.refl, id⟩ rfl) ?_
  refine postX.intro (fun _ _ => True) (fun _ _ _ _ _ => trivial) (fun v w' hR hd => by
    obtain ⟨d1, -⟩ := hd
    have e := hR.2 h2
    have l := lt_of_at e
    simp (disch := first | assumption | omega | (simp only [szR, rwC_len, rwC_all, rwsC_len, rwsC_all, ptC_len, ptC_all] <;> omega) | rfl | decide) only [gen0, gen1, gen2, rulesC, rulesX, litR, bolR, Nat.reduceAdd, Nat.reduceLeDiff, numR, memR, valR, heapR, updR, intR, decR, extR, slR, segR, thenR, pnR, Int.reduceToNat, Int.reduceAdd, Int.reduceSub, Int.reduceLT, Int.reduceLE, Nat.reduceSub, Nat.reduceMul, Nat.reduceEqDiff, d1, e, List.set_cons_zero]
    have hx : Ext [b2] w' (World.upd w' b2 [.int .u64 (x : Nat)]) := by (repeat first | assumption | exact Ext.refl | apply Ext.alloc | apply Ext.drew | (refine Ext.updN ?_ ?_; (focus first | omega | (simp only [szR] <;> omega))) | (refine Ext.updI ?_ ?_; (focus (simp; done))))
    exact okX.mk ⟨hx, fun _ => upd_at e⟩ trivial) ?_
  intro v w1 hR hd _
  obtain ⟨d1, d2, -⟩ := hd
  rw [d2]
  have k2 := hR.2 h2
  have k3 := hR.1.at h3 (by simpa using Ne.symm hne)
  have l2 := lt_of_at k2
  have l3 := lt_of_at k3
  have hx1 : Ext [b2, b3] w (World.upd w1 b3 [.int .u64 (y : Nat)]) := by
    have := hR.1.mono (T := [b2, b3]) (by simp)
    (repeat first | assumption | exact Ext.refl | apply Ext.alloc | apply Ext.drew | (refine Ext.updN ?_ ?_; (focus first | omega | (simp only [szR] <;> omega))) | (refine Ext.updI ?_ ?_; (focus (simp; done))))
  have m2 : (World.upd w1 b3 [.int .u64 (y : Nat)]).heap[b2]? = some (.cells [.int .u64 (x : Nat)].toArray 42 (0, 0)) := (upd_ne hne).trans k2
  have m3 : (World.upd w1 b3 [.int .u64 (y : Nat)]).heap[b3]? = some (.cells [.int .u64 (y : Nat)].toArray 42 (0, 0)) := upd_at k3
  simp (disch := first | assumption | omega | (simp only [szR, rwC_len, rwC_all, rwsC_len, rwsC_all, ptC_len, ptC_all] <;> omega) | rfl | decide) only [gen0, gen1, gen2, rulesC, rulesX, litR, bolR, Nat.reduceAdd, Nat.reduceLeDiff, numR, memR, valR, heapR, updR, intR, decR, extR, slR, segR, thenR, pnR, Int.reduceToNat, Int.reduceAdd, Int.reduceSub, Int.reduceLT, Int.reduceLE, Nat.reduceSub, Nat.reduceMul, Nat.reduceEqDiff, k3, List.set_cons_zero, m2, m3]
  exact hK _ hx1
end Go.Proofs.YtobkjnmdbkieeaaDoor
