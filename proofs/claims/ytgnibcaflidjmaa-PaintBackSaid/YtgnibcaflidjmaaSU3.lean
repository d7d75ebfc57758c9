/- A pivot chosen; ranges parted; conditions: those of each theorem. -/
import Derived.Test.YtgnibcaflidjmaaSU2
namespace Go.Proofs.Ytgnibcaflidjmaa
open Go.Fx
set_option maxRecDepth 100000
set_option linter.unusedSimpArgs false
set_option linter.unusedVariables false
theorem order2_spec {w : World} {g n c a b sp s : Nat} {xs : List Nat} (h : SU w g n xs) (ha : a < n) (hb' : b < n) (hs : w.heap[sp]? = some (.cells [.int .i64 (s : Nat)].toArray 3 (0, 0))) (hs2 : s < 1000) {K : Value → World → Prop}
    (hK : ∀ (r1 r2 s' : Nat) w', ((r1 = a ∧ r2 = b) ∨ (r1 = b ∧ r2 = a)) → s' ≤ s + 1 → w'.heap[sp]? = some (.cells [.int .i64 (s' : Nat)].toArray 3 (0, 0)) → Ext [sp] w w' → K (.tuple #[.int .i64 (r1 : Nat), .int .i64 (r2 : Nat)]) w') :
    callsK Try.prog 115 #[.slice (some ⟨g, 0, none⟩) n c, .int .i64 (a : Nat), .int .i64 (b : Nat), .pointer (some ⟨sp, 0, none⟩)] w K := by
  obtain ⟨cur, hb, hl, hc⟩ := h.at'
  have hlen := h.len
  have g1 := hc a (by omega)
  have g2 := hc b (by omega)
  have e1 : ((s : Nat) : Int) + 1 = ((s + 1 : Nat) : Int) := by omega
  have ls := lt_of_at hs
  apply F115_ok
  unfold F115
  rw [drewK_eq]
  simp (disch := first | assumption | omega | (simp only [szR] <;> omega) | rfl | decide) only [gen0, gen1, gen2, rulesZ, litR, bolR, Nat.reduceAdd, Nat.reduceLeDiff, numR, memR, valR, heapR, updR, intR, decR, extR, slR, segR, thenR, pnR, Int.reduceToNat, Int.reduceAdd, Int.reduceSub, Int.reduceLT, Int.reduceLE, Nat.reduceSub, Nat.reduceMul, Nat.reduceEqDiff, hb, g1, g2]
  refine lessK (fun _ => ?_) (fun _ => ?_)
  · simp (disch := first | assumption | omega | (simp only [szR] <;> omega) | rfl | decide) only [gen0, gen1, gen2, rulesZ, litR, bolR, Nat.reduceAdd, Nat.reduceLeDiff, numR, memR, valR, heapR, updR, intR, decR, extR, slR, segR, thenR, pnR, Int.reduceToNat, Int.reduceAdd, Int.reduceSub, Int.reduceLT, Int.reduceLE, Nat.reduceSub, Nat.reduceMul, Nat.reduceEqDiff, hs, e1]
    exact hK b a (s + 1) _ (.inr ⟨rfl, rfl⟩) (by omega) (upd_at (w := w.drew) hs) (((dE w).mono (by simp)).trans (Ext.updI (S := [sp]) (by simp) Ext.refl) (by simp))
  · simp (disch := first | assumption | omega | (simp only [szR] <;> omega) | rfl | decide) only [gen0, gen1, gen2, rulesZ, litR, bolR, Nat.reduceAdd, Nat.reduceLeDiff, numR, memR, valR, heapR, updR, intR, decR, extR, slR, segR, thenR, pnR, Int.reduceToNat, Int.reduceAdd, Int.reduceSub, Int.reduceLT, Int.reduceLE, Nat.reduceSub, Nat.reduceMul, Nat.reduceEqDiff]
    exact hK a b s _ (.inl ⟨rfl, rfl⟩) (by omega) hs ((dE w).mono (by simp))
theorem median_spec {w : World} {g n c a b d sp s : Nat} {xs : List Nat} (h : SU w g n xs) (ha : a < n) (hb : b < n) (hd : d < n) (hs : w.heap[sp]? = some (.cells [.int .i64 (s : Nat)].toArray 3 (0, 0))) (hs2 : s < 900) {K : Value → World → Prop}
    (hK : ∀ (r s' : Nat) w', (r = a ∨ r = b ∨ r = d) → s' ≤ s + 3 → w'.heap[sp]? = some (.cells [.int .i64 (s' : Nat)].toArray 3 (0, 0)) → Ext [sp] w w' → K (.int .i64 (r : Nat)) w') :
    callsK Try.prog 113 #[.slice (some ⟨g, 0, none⟩) n c, .int .i64 (a : Nat), .int .i64 (b : Nat), .int .i64 (d : Nat), .pointer (some ⟨sp, 0, none⟩)] w K := by
  have hgs : g ∉ [sp] := by
    obtain ⟨cur, hg, -⟩ := h.at'
    intro hm
    rw [List.mem_singleton.1 hm, hs] at hg
    simp only [Option.some.injEq, Obj.cells.injEq] at hg
    exact absurd hg.2.1 (by decide)
  apply F113_ok
  unfold F113
  simp (disch := first | assumption | omega | (simp only [szR] <;> omega) | rfl | decide) only [gen0, gen1, gen2, rulesZ, litR, bolR, Nat.reduceAdd, Nat.reduceLeDiff, numR, memR, valR, heapR, updR, intR, decR, extR, slR, segR, thenR, pnR, Int.reduceToNat, Int.reduceAdd, Int.reduceSub, Int.reduceLT, Int.reduceLE, Nat.reduceSub, Nat.reduceMul, Nat.reduceEqDiff]
  refine order2_spec h ha hb hs (by omega) fun r1 r2 s1 w1 hr1 hs1 hp1 hx1 => ?_
  simp (disch := first | assumption | omega | (simp only [szR] <;> omega) | rfl | decide) only [gen0, gen1, gen2, rulesZ, litR, bolR, Nat.reduceAdd, Nat.reduceLeDiff, numR, memR, valR, heapR, updR, intR, decR, extR, slR, segR, thenR, pnR, Int.reduceToNat, Int.reduceAdd, Int.reduceSub, Int.reduceLT, Int.reduceLE, Nat.reduceSub, Nat.reduceMul, Nat.reduceEqDiff]
  refine order2_spec (h.ext hx1 hgs) (by omega) hd hp1 (by omega) fun r3 r4 s2 w2 hr2 hs2 hp2 hx2 => ?_
  simp (disch := first | assumption | omega | (simp only [szR] <;> omega) | rfl | decide) only [gen0, gen1, gen2, rulesZ, litR, bolR, Nat.reduceAdd, Nat.reduceLeDiff, numR, memR, valR, heapR, updR, intR, decR, extR, slR, segR, thenR, pnR, Int.reduceToNat, Int.reduceAdd, Int.reduceSub, Int.reduceLT, Int.reduceLE, Nat.reduceSub, Nat.reduceMul, Nat.reduceEqDiff]
  refine order2_spec ((h.ext hx1 hgs).ext hx2 hgs) (by omega) (by omega) hp2 (by omega) fun r5 r6 s3 w3 hr3 hs3 hp3 hx3 => ?_
  simp (disch := first | assumption | omega | (simp only [szR] <;> omega) | rfl | decide) only [gen0, gen1, gen2, rulesZ, litR, bolR, Nat.reduceAdd, Nat.reduceLeDiff, numR, memR, valR, heapR, updR, intR, decR, extR, slR, segR, thenR, pnR, Int.reduceToNat, Int.reduceAdd, Int.reduceSub, Int.reduceLT, Int.reduceLE, Nat.reduceSub, Nat.reduceMul, Nat.reduceEqDiff]
  exact hK r6 s3 w3 (by omega) (by omega) hp3 (xG (xG hx1 hx2) hx3)
theorem medianAdj_spec {w : World} {g n c a sp s : Nat} {xs : List Nat} (h : SU w g n xs) (ha : a + 1 < n) (ha0 : 1 ≤ a) (hn : n < 1000000) (hs : w.heap[sp]? = some (.cells [.int .i64 (s : Nat)].toArray 3 (0, 0))) (hs2 : s < 900) {K : Value → World → Prop}
    (hK : ∀ (r s' : Nat) w', a ≤ r + 1 → r ≤ a + 1 → s' ≤ s + 3 → w'.heap[sp]? = some (.cells [.int .i64 (s' : Nat)].toArray 3 (0, 0)) → Ext [sp] w w' → K (.int .i64 (r : Nat)) w') :
    callsK Try.prog 112 #[.slice (some ⟨g, 0, none⟩) n c, .int .i64 (a : Nat), .pointer (some ⟨sp, 0, none⟩)] w K := by
  have e1 : ((a : Nat) : Int) - 1 = ((a - 1 : Nat) : Int) := by omega
  have e2 : ((a : Nat) : Int) + 1 = ((a + 1 : Nat) : Int) := by omega
  apply F112_ok
  unfold F112
  simp (disch := first | assumption | omega | (simp only [szR] <;> omega) | rfl | decide) only [gen0, gen1, gen2, rulesZ, litR, bolR, Nat.reduceAdd, Nat.reduceLeDiff, numR, memR, valR, heapR, updR, intR, decR, extR, slR, segR, thenR, pnR, Int.reduceToNat, Int.reduceAdd, Int.reduceSub, Int.reduceLT, Int.reduceLE, Nat.reduceSub, Nat.reduceMul, Nat.reduceEqDiff, e1, e2]
  refine median_spec h (by omega) (by omega) (by omega) hs hs2 fun r s' w' hr h1 h2 h3 => ?_
  exact hK r s' w' (by omega) (by omega) h1 h2 h3
set_option maxHeartbeats 1000000
theorem choosePivot_spec {w : World} {g n c a b : Nat} {xs : List Nat} (h : SU w g n xs) (hab : a + 12 < b) (hbn : b ≤ n) (hn : n < 1000000) {K : Value → World → Prop}
    (hK : ∀ (p : Nat) (z : Int) w', a ≤ p → p < b → (z = 0 ∨ z = 1 ∨ z = 2) → Ext [] w w' → K (.tuple #[.int .i64 (p : Nat), .int .i64 z]) w') :
    callsK Try.prog 100 #[.slice (some ⟨g, 0, none⟩) n c, .int .i64 (a : Nat), .int .i64 (b : Nat)] w K := by
  apply F100_ok
  unfold F100
  obtain ⟨m, hm⟩ : ∃ m, b = a + m := ⟨b - a, by omega⟩
  subst hm
  have e1 : ((a + m : Nat) : Int) - (a : Int) = (m : Int) := by omega
  have e2 : ((m : Nat) : Int).tdiv 4 = ((m / 4 : Nat) : Int) := by
    rw [Int.tdiv_eq_ediv_of_nonneg (by omega)]
    omega
  have e3 : ((m : Nat) : Int) / 4 = ((m / 4 : Nat) : Int) := by omega
  obtain ⟨q, hq⟩ : ∃ q, q = m / 4 := ⟨_, rfl⟩
  rw [← hq] at e2 e3
  have f1 : ((q : Nat) : Int) * 1 = (q : Int) := by omega
  have f2 : ((q : Nat) : Int) * 2 = ((q * 2 : Nat) : Int) := by omega
  have f3 : ((q : Nat) : Int) * 3 = ((q * 3 : Nat) : Int) := by omega
  have g1 : ((a : Nat) : Int) + (q : Int) = ((a + q : Nat) : Int) := by omega
  have g2 : ((a : Nat) : Int) + ((q * 2 : Nat) : Int) = ((a + q * 2 : Nat) : Int) := by omega
  have g3 : ((a : Nat) : Int) + ((q * 3 : Nat) : Int) = ((a + q * 3 : Nat) : Int) := by omega
  have e8 : decide ((8 : Int) ≤ (m : Int)) = true := decide_eq_true (by omega)
  simp (disch := first | assumption | omega | (simp only [szR] <;> omega) | rfl | decide) only [gen0, gen1, gen2, rulesZ, litR, bolR, Nat.reduceAdd, Nat.reduceLeDiff, numR, memR, valR, heapR, updR, intR, decR, extR, slR, segR, thenR, pnR, Int.reduceToNat, Int.reduceAdd, Int.reduceSub, Int.reduceLT, Int.reduceLE, Nat.reduceSub, Nat.reduceMul, Nat.reduceEqDiff, e1, e2, e3, f1, f2, f3, g1, g2, g3]
  refine joinL.intro fun J0 hJ0 => ?_
  obtain ⟨W, hW⟩ : ∃ W, W = w.alloc (.cells #[.int .i64 0] 3) := ⟨_, rfl⟩
  rw [← hW]
  have hxW : Ext [] w W := by rw [hW]; exact Ext.alloc Ext.refl _ _
  have hs : W.heap[w.heap.size]? = some (.cells [.int .i64 ((0 : Nat) : Int)].toArray 3 (0, 0)) := by rw [hW]; exact alloc_at rfl
  clear hW
  have hgs : ∀ {w2 : World}, Ext [w.heap.size] W w2 → SU w2 g n xs := fun hx => (h.ext hxW (by simp)).ext hx (by
    obtain ⟨cur, hg, -⟩ := h.at'
    have := lt_of_at hg
    simp
    omega)
  have hgo : ∀ (p s : Nat) w2, a ≤ p → p < a + m → w2.heap[w.heap.size]? = some (.cells [.int .i64 (s : Nat)].toArray 3 (0, 0)) → Ext [w.heap.size] W w2 → J0 [.int .i64 (p : Nat)] w2 := by
    intro p s w2 hp1 hp2 hs2 hx2
    have hX : Ext [] w w2 := hxW.trans hx2 (fun b hb => .inr (by rw [List.mem_singleton.1 hb]; exact Nat.le_refl _))
    apply hJ0
    intro _
    clear hJ0
    by_cases c0 : s = 0
    · have d0 : decide (((s : Nat) : Int) = 0) = true := decide_eq_true (by omega)
      simp (disch := first | assumption | omega | (simp only [szR] <;> omega) | rfl | decide) only [gen0, gen1, gen2, rulesZ, litR, bolR, Nat.reduceAdd, Nat.reduceLeDiff, numR, memR, valR, heapR, updR, intR, decR, extR, slR, segR, thenR, pnR, Int.reduceToNat, Int.reduceAdd, Int.reduceSub, Int.reduceLT, Int.reduceLE, Nat.reduceSub, Nat.reduceMul, Nat.reduceEqDiff, hs2, d0]
      exact hK p 1 w2 hp1 hp2 (.inr (.inl rfl)) hX
    have d0 : decide (((s : Nat) : Int) = 0) = false := decide_eq_false (by omega)
    by_cases c1 : s = 12
    · have d1 : decide (((s : Nat) : Int) = 12) = true := decide_eq_true (by omega)
      simp (disch := first | assumption | omega | (simp only [szR] <;> omega) | rfl | decide) only [gen0, gen1, gen2, rulesZ, litR, bolR, Nat.reduceAdd, Nat.reduceLeDiff, numR, memR, valR, heapR, updR, intR, decR, extR, slR, segR, thenR, pnR, Int.reduceToNat, Int.reduceAdd, Int.reduceSub, Int.reduceLT, Int.reduceLE, Nat.reduceSub, Nat.reduceMul, Nat.reduceEqDiff, hs2, d0, d1]
      exact hK p 2 w2 hp1 hp2 (.inr (.inr rfl)) hX
    · have d1 : decide (((s : Nat) : Int) = 12) = false := decide_eq_false (by omega)
      simp (disch := first | assumption | omega | (simp only [szR] <;> omega) | rfl | decide) only [gen0, gen1, gen2, rulesZ, litR, bolR, Nat.reduceAdd, Nat.reduceLeDiff, numR, memR, valR, heapR, updR, intR, decR, extR, slR, segR, thenR, pnR, Int.reduceToNat, Int.reduceAdd, Int.reduceSub, Int.reduceLT, Int.reduceLE, Nat.reduceSub, Nat.reduceMul, Nat.reduceEqDiff, hs2, d0, d1]
      exact hK p 0 w2 hp1 hp2 (.inl rfl) hX
  clear hJ0
  simp (disch := first | assumption | omega | (simp only [szR] <;> omega) | rfl | decide) only [gen0, gen1, gen2, rulesZ, litR, bolR, Nat.reduceAdd, Nat.reduceLeDiff, numR, memR, valR, heapR, updR, intR, decR, extR, slR, segR, thenR, pnR, Int.reduceToNat, Int.reduceAdd, Int.reduceSub, Int.reduceLT, Int.reduceLE, Nat.reduceSub, Nat.reduceMul, Nat.reduceEqDiff, e8]
  refine joinL.intro fun J2 hJ2 => ?_
  have hgo2 : ∀ (i j k s : Nat) w2, a ≤ i → i < a + m → a ≤ j → j < a + m → a ≤ k → k < a + m → s < 100 → w2.heap[w.heap.size]? = some (.cells [.int .i64 (s : Nat)].toArray 3 (0, 0)) → Ext [w.heap.size] W w2 → J2 [.int .i64 (i : Nat), .int .i64 (j : Nat), .int .i64 (k : Nat)] w2 := by
    intro i j k s w2 h1 h2 h3 h4 h5 h6 h7 hs2 hx2
    apply hJ2
    intro _
    clear hJ2
    simp (disch := first | assumption | omega | (simp only [szR] <;> omega) | rfl | decide) only [gen0, gen1, gen2, rulesZ, litR, bolR, Nat.reduceAdd, Nat.reduceLeDiff, numR, memR, valR, heapR, updR, intR, decR, extR, slR, segR, thenR, pnR, Int.reduceToNat, Int.reduceAdd, Int.reduceSub, Int.reduceLT, Int.reduceLE, Nat.reduceSub, Nat.reduceMul, Nat.reduceEqDiff]
    refine median_spec (hgs hx2) (by omega) (by omega) (by omega) hs2 (by omega) fun r s' w3 hr h8 h9 hx3 => ?_
    exact hgo r s' w3 (by omega) (by omega) h9 (xG hx2 hx3)
  clear hJ2
  by_cases c5 : 50 ≤ m
  · have d5 : decide ((50 : Int) ≤ (m : Int)) = true := decide_eq_true (by omega)
    simp (disch := first | assumption | omega | (simp only [szR] <;> omega) | rfl | decide) only [gen0, gen1, gen2, rulesZ, litR, bolR, Nat.reduceAdd, Nat.reduceLeDiff, numR, memR, valR, heapR, updR, intR, decR, extR, slR, segR, thenR, pnR, Int.reduceToNat, Int.reduceAdd, Int.reduceSub, Int.reduceLT, Int.reduceLE, Nat.reduceSub, Nat.reduceMul, Nat.reduceEqDiff, d5]
    refine medianAdj_spec (hgs Ext.refl) (by omega) (by omega) hn hs (by omega) fun r1 s1 w1 h1 h2 h3 h4 hx1 => ?_
    simp (disch := first | assumption | omega | (simp only [szR] <;> omega) | rfl | decide) only [gen0, gen1, gen2, rulesZ, litR, bolR, Nat.reduceAdd, Nat.reduceLeDiff, numR, memR, valR, heapR, updR, intR, decR, extR, slR, segR, thenR, pnR, Int.reduceToNat, Int.reduceAdd, Int.reduceSub, Int.reduceLT, Int.reduceLE, Nat.reduceSub, Nat.reduceMul, Nat.reduceEqDiff]
    refine medianAdj_spec (hgs hx1) (by omega) (by omega) hn h4 (by omega) fun r2 s2 w2 h5 h6 h7 h8 hx2 => ?_
    simp (disch := first | assumption | omega | (simp only [szR] <;> omega) | rfl | decide) only [gen0, gen1, gen2, rulesZ, litR, bolR, Nat.reduceAdd, Nat.reduceLeDiff, numR, memR, valR, heapR, updR, intR, decR, extR, slR, segR, thenR, pnR, Int.reduceToNat, Int.reduceAdd, Int.reduceSub, Int.reduceLT, Int.reduceLE, Nat.reduceSub, Nat.reduceMul, Nat.reduceEqDiff]
    refine medianAdj_spec (hgs (xG hx1 hx2)) (by omega) (by omega) hn h8 (by omega) fun r3 s3 w3 h9 h10 h11 h12 hx3 => ?_
    exact hgo2 r1 r2 r3 s3 w3 (by omega) (by omega) (by omega) (by omega) (by omega) (by omega) (by omega) h12 (xG (xG hx1 hx2) hx3)
  · have d5 : decide ((50 : Int) ≤ (m : Int)) = false := decide_eq_false (by omega)
    simp (disch := first | assumption | omega | (simp only [szR] <;> omega) | rfl | decide) only [gen0, gen1, gen2, rulesZ, litR, bolR, Nat.reduceAdd, Nat.reduceLeDiff, numR, memR, valR, heapR, updR, intR, decR, extR, slR, segR, thenR, pnR, Int.reduceToNat, Int.reduceAdd, Int.reduceSub, Int.reduceLT, Int.reduceLE, Nat.reduceSub, Nat.reduceMul, Nat.reduceEqDiff, d5]
    exact hgo2 _ _ _ 0 _ (by omega) (by omega) (by omega) (by omega) (by omega) (by omega) (by omega) hs Ext.refl
end Go.Proofs.Ytgnibcaflidjmaa
