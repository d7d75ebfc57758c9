/- What is kept for one number is never told for another one: the walk; conditions: those of each theorem. -/
import Derived.Test.YtbigiabcgplkgaaAsids
namespace Go.Proofs.Ytbigiabcgplkgaa
open Go.Fx
set_option maxRecDepth 100000
set_option linter.unusedSimpArgs false
set_option linter.unusedVariables false
theorem set6 (f : Nat → Bool) (n : Nat) : (entC f n).set 12 (.int .u64 6) = entC f 6 := by simp [entC]
theorem un_lt {w : World} {b ro ai : Nat} {S : Nat → List Ln} {g : Bool} {E : TypeId} {f : Nat × Nat} (_hb : w.heap[b]? = some (.cells (tlbC S ++ uT ro ai g).toArray E f)) : 133 < (tlbC S ++ uT ro ai g).length := by rw [un_len]; omega
theorem n5 : ((5 * 4096 : Nat) : Int) = 20480 := rfl
theorem n6 : ((6 * 4096 : Nat) : Int) = 24576 := rfl
set_option maxHeartbeats 8000000 in
theorem asids_spec {w : World} {a b page : Int} (ha : (Lit.int .u64 a).wf = true) (hb : (Lit.int .u64 b).wf = true) {K : Value → World → Prop} (hK : ∀ w', Ext [] w w' → K (.bool true) w') : callsK Try.prog 9 #[.int .u64 a, .int .u64 b, .int .i64 page] w K := by
  have ha1 := u64_of ha
  have hb1 := u64_of hb
  obtain ⟨a, rfl⟩ : ∃ n : Nat, a = n := ⟨a.toNat, by omega⟩
  obtain ⟨b, rfl⟩ : ∃ n : Nat, b = n := ⟨b.toNat, by omega⟩
  clear ha hb
  have hmask : bitI .and .i64 page 7 = page % 8 := and_mask (k := .i64) (n := 3) (by decide)
  obtain ⟨p, hp, hp8⟩ : ∃ p : Nat, page % 8 = p ∧ p < 8 := ⟨(page % 8).toNat, by omega, by omega⟩
  rw [hp] at hmask
  have e8 : (8192 : Int) + 8 * (p : Int) = ((8192 + p * 8 : Nat) : Int) := by omega
  have ep : (p : Int) * 4096 = ((p * 4096 : Nat) : Int) := by omega
  have hsr : ∀ L : List Value, L.length = 4 → splice [.int .i64 0, .slice none 0 0, .slice none 0 0, .slice none 0 0] 0 L = L := fun L h => splice_all (by rw [h]; rfl)
  have hse : ∀ f n, splice [Value.bool false, .bool false, .bool false, .bool false, .bool false, .bool false, .bool false, .bool false, .bool false, .bool false, .bool false, .bool false, .int .u64 0] 0 (entC f n) = entC f n := fun f n => splice_over (by rw [entC_len]; rfl)
  have hspU : splice (tlbC noS ++ uT 0 0 false) 0 (tlbC noS ++ uT 0 a false) = tlbC noS ++ uT 0 a false := splice_over (by rw [un_len, un_len])
  have hdrU : (tlbC noS ++ uT 0 a false) ++ List.drop (tlbC noS ++ uT 0 a false).length (tlbC noS ++ uT 0 0 false) = tlbC noS ++ uT 0 a false := by rw [un_len, List.drop_eq_nil_of_le (by rw [un_len]; omega), List.append_nil]
  have hUl : (tlbC noS ++ uT 0 a false).length = 135 := un_len _ _ _ _
  have hUa := un_all0 0 a false
  have hUz : (tlbC noS ++ uT 0 0 false).length = 135 := un_len _ _ _ _
  have hwl5 := wd_lt fU 5
  have hwl6 := wd_lt fU 6
  obtain ⟨a1, a2, a3, a4, a5⟩ := w5
  obtain ⟨b1, b2, b3, b4, b5⟩ := w6
  obtain ⟨c1, c2, c3⟩ := w6'
  apply F9_ok
  unfold F9
  simp (disch := first | assumption | omega | (simp only [szR, entC_len, entC_all, fdC_len, fdC_all, un_len, un_all0] <;> omega) | rfl | decide) only [gen0, gen1, gen2, rulesM, rulesU, litR, bolR, Nat.reduceAdd, Nat.reduceLeDiff, numR, memR, valR, heapR, updR, intR, decR, extR, slR, segR, thenR, pnR, Int.reduceToNat, Int.reduceAdd, Int.reduceSub, Int.reduceLT, Int.reduceLE, Nat.reduceSub, Nat.reduceMul, Nat.reduceEqDiff]
  refine setup_spec fun w1 r q base c g0 L P va vb hm hr hc hrb hqb hwr hwq hbw hx1 => ?_
  have hs1 := hx1.size
  obtain ⟨hlenL, hallL, hsubL⟩ := hr.cells
  have hm1l := hm.lt
  simp (disch := first | assumption | omega | (simp only [szR, entC_len, entC_all, fdC_len, fdC_all, un_len, un_all0] <;> omega) | rfl | decide) only [gen0, gen1, gen2, rulesM, rulesU, litR, bolR, Nat.reduceAdd, Nat.reduceLeDiff, numR, memR, valR, heapR, updR, intR, decR, extR, slR, segR, thenR, pnR, Int.reduceToNat, Int.reduceAdd, Int.reduceSub, Int.reduceLT, Int.reduceLE, Nat.reduceSub, Nat.reduceMul, Nat.reduceEqDiff, hlenL, hallL, hsr, hmask, foldU, hse, entC_sub, e8]
  refine Word_spec (n := 5) (by omega) fun w2 hx2 => ?_
  have hk2 := kept0 hx2
  have hs2' := hx2.size
  simp only [szR] at hs2'
  have hx12 : Ext [] w1 w2 := Ext.trans (S := []) (by (repeat first | assumption | exact Ext.refl | apply Ext.alloc | apply Ext.drew | (refine Ext.updN ?_ ?_; (focus first | omega | (simp only [szR] <;> omega))) | (refine Ext.updI ?_ ?_; (focus (simp; done))))) hx2 (by simp)
  have hd10 : w2.heap[w1.heap.size + 1]? = some (.cells (entC fU 5).toArray 32 (0, 0)) := (by first | with_reducible rfl | assumption | (simp (disch := first | assumption | omega | (simp only [szR, entC_len, entC_all, fdC_len, fdC_all, un_len, un_all0] <;> omega) | rfl | decide) only [gen0, gen1, gen2, rulesM, rulesU, litR, bolR, Nat.reduceAdd, Nat.reduceLeDiff, numR, memR, valR, heapR, updR, intR, decR, extR, slR, segR, thenR, pnR, Int.reduceToNat, Int.reduceAdd, Int.reduceSub, Int.reduceLT, Int.reduceLE, Nat.reduceSub, Nat.reduceMul, Nat.reduceEqDiff, hk2, hse] <;> rfl) | simp (disch := first | assumption | omega | (simp only [szR, entC_len, entC_all, fdC_len, fdC_all, un_len, un_all0] <;> omega) | rfl | decide) only [gen0, gen1, gen2, rulesM, rulesU, litR, bolR, Nat.reduceAdd, Nat.reduceLeDiff, numR, memR, valR, heapR, updR, intR, decR, extR, slR, segR, thenR, pnR, Int.reduceToNat, Int.reduceAdd, Int.reduceSub, Int.reduceLT, Int.reduceLE, Nat.reduceSub, Nat.reduceMul, Nat.reduceEqDiff, hk2, hse])
  simp (disch := first | assumption | omega | (simp only [szR, entC_len, entC_all, fdC_len, fdC_all, un_len, un_all0] <;> omega) | rfl | decide) only [gen0, gen1, gen2, rulesM, rulesU, litR, bolR, Nat.reduceAdd, Nat.reduceLeDiff, numR, memR, valR, heapR, updR, intR, decR, extR, slR, segR, thenR, pnR, Int.reduceToNat, Int.reduceAdd, Int.reduceSub, Int.reduceLT, Int.reduceLE, Nat.reduceSub, Nat.reduceMul, Nat.reduceEqDiff]
  refine Store_spec (a := 8192 + p * 8) (v := (wd fU 5 : Nat)) (hm.ext hx12 (by simp) (by simp)) (by omega) (by omega) (.inr (.inr (.inr rfl))) (by omega) ⟨by omega, by omega⟩ fun g3 w3 hm3 _ hx3 => ?_
  have hs3 := hx3.size
  have hd10 := hx3.at hd10 (by simp <;> omega)
  have hxw3 : Ext [] w w3 := (hx1.trans hx12 (by simp)).trans hx3 (by simp <;> omega)
  have hm3l := hm3.lt
  have hM3 : MA (stored (laidM twoE) (8192 + p * 8) 8 (wd fU 5 : Nat)) (8192 + p * 8) (wd fU 5) := by
    obtain ⟨z0, z1⟩ := laid_base [] (by simp)
    exact MA.set (X := leN (laidM twoE) (8192 + p * 8) 8) ⟨(laidW_eq _ (by omega)).trans z0, (laidW_eq _ (by omega)).trans z1, rfl⟩ (by omega) (by omega) (by omega)
  simp (disch := first | assumption | omega | (simp only [szR, entC_len, entC_all, fdC_len, fdC_all, un_len, un_all0] <;> omega) | rfl | decide) only [gen0, gen1, gen2, rulesM, rulesU, litR, bolR, Nat.reduceAdd, Nat.reduceLeDiff, numR, memR, valR, heapR, updR, intR, decR, extR, slR, segR, thenR, pnR, Int.reduceToNat, Int.reduceAdd, Int.reduceSub, Int.reduceLT, Int.reduceLE, Nat.reduceSub, Nat.reduceMul, Nat.reduceEqDiff, blU2, zeroU, hspU, hdrU, ep]
  refine tmiss (ai := a) (p := p) (X := wd fU 5) (N := 5) (S := noS) (b := w3.heap.size) ⟨74, (by first | with_reducible rfl | assumption | (simp (disch := first | assumption | omega | (simp only [szR, entC_len, entC_all, fdC_len, fdC_all, un_len, un_all0] <;> omega) | rfl | decide) only [gen0, gen1, gen2, rulesM, rulesU, litR, bolR, Nat.reduceAdd, Nat.reduceLeDiff, numR, memR, valR, heapR, updR, intR, decR, extR, slR, segR, thenR, pnR, Int.reduceToNat, Int.reduceAdd, Int.reduceSub, Int.reduceLT, Int.reduceLE, Nat.reduceSub, Nat.reduceMul, Nat.reduceEqDiff, zeroU, hspU, hdrU] <;> rfl) | simp (disch := first | assumption | omega | (simp only [szR, entC_len, entC_all, fdC_len, fdC_all, un_len, un_all0] <;> omega) | rfl | decide) only [gen0, gen1, gen2, rulesM, rulesU, litR, bolR, Nat.reduceAdd, Nat.reduceLeDiff, numR, memR, valR, heapR, updR, intR, decR, extR, slR, segR, thenR, pnR, Int.reduceToNat, Int.reduceAdd, Int.reduceSub, Int.reduceLT, Int.reduceLE, Nat.reduceSub, Nat.reduceMul, Nat.reduceEqDiff, zeroU, hspU, hdrU])⟩ Two.no Fit.no (hm3.ext (S := []) (by (repeat first | assumption | exact Ext.refl | apply Ext.alloc | apply Ext.drew | (refine Ext.updN ?_ ?_; (focus first | omega | (simp only [szR] <;> omega))) | (refine Ext.updI ?_ ?_; (focus (simp; done))))) (by simp) (by simp)) (by omega) (by omega) hp8 hM3 rfl a1 a2 a3 fun w4 m4 g4 X4 hS4 hm4 hM4 hX4 hx4 => ?_
  have hx34 : Ext [w3.heap.size, q] w3 w4 := Ext.trans (by (repeat first | assumption | exact Ext.refl | apply Ext.alloc | apply Ext.drew | (refine Ext.updN ?_ ?_; (focus first | omega | (simp only [szR] <;> omega))) | (refine Ext.updI ?_ ?_; (focus (simp; done))))) hx4 (by simp)
  have hs4' := hx4.size
  simp only [szR] at hs4'
  have hd10 := hx34.at hd10 (by simp <;> omega)
  have hxw4 : Ext [] w w4 := hxw3.trans hx34 (by simp <;> omega)
  rw [n5]
  simp (disch := first | assumption | omega | (simp only [szR, entC_len, entC_all, fdC_len, fdC_all, un_len, un_all0] <;> omega) | rfl | decide) only [gen0, gen1, gen2, rulesM, rulesU, litR, bolR, Nat.reduceAdd, Nat.reduceLeDiff, numR, memR, valR, heapR, updR, intR, decR, extR, slR, segR, thenR, pnR, Int.reduceToNat, Int.reduceAdd, Int.reduceSub, Int.reduceLT, Int.reduceLE, Nat.reduceSub, Nat.reduceMul, Nat.reduceEqDiff, hd10, set6, entC_sub, e8]
  refine Word_spec (n := 6) (by omega) fun w5 hx5 => ?_
  have hk5 := kept0 hx5
  have hs5' := hx5.size
  simp only [szR] at hs5'
  have hl10 := lt_of_at hd10
  have hx45 : Ext [w1.heap.size + 1] w4 w5 := Ext.trans (by (repeat first | assumption | exact Ext.refl | apply Ext.alloc | apply Ext.drew | (refine Ext.updN ?_ ?_; (focus first | omega | (simp only [szR] <;> omega))) | (refine Ext.updI ?_ ?_; (focus (simp; done))))) hx5 (by simp)
  have hd12 : w5.heap[w4.heap.size]? = some (.cells [.int .u64 20480, .bool false].toArray 76 (0, 0)) := (by first | with_reducible rfl | assumption | (simp (disch := first | assumption | omega | (simp only [szR, entC_len, entC_all, fdC_len, fdC_all, un_len, un_all0] <;> omega) | rfl | decide) only [gen0, gen1, gen2, rulesM, rulesU, litR, bolR, Nat.reduceAdd, Nat.reduceLeDiff, numR, memR, valR, heapR, updR, intR, decR, extR, slR, segR, thenR, pnR, Int.reduceToNat, Int.reduceAdd, Int.reduceSub, Int.reduceLT, Int.reduceLE, Nat.reduceSub, Nat.reduceMul, Nat.reduceEqDiff, hk5] <;> rfl) | simp (disch := first | assumption | omega | (simp only [szR, entC_len, entC_all, fdC_len, fdC_all, un_len, un_all0] <;> omega) | rfl | decide) only [gen0, gen1, gen2, rulesM, rulesU, litR, bolR, Nat.reduceAdd, Nat.reduceLeDiff, numR, memR, valR, heapR, updR, intR, decR, extR, slR, segR, thenR, pnR, Int.reduceToNat, Int.reduceAdd, Int.reduceSub, Int.reduceLT, Int.reduceLE, Nat.reduceSub, Nat.reduceMul, Nat.reduceEqDiff, hk5])
  have hS5 := hS4.ext hx45 (by simp <;> omega)
  have hxw5 : Ext [] w w5 := hxw4.trans hx45 (by simp <;> omega)
  simp (disch := first | assumption | omega | (simp only [szR, entC_len, entC_all, fdC_len, fdC_all, un_len, un_all0] <;> omega) | rfl | decide) only [gen0, gen1, gen2, rulesM, rulesU, litR, bolR, Nat.reduceAdd, Nat.reduceLeDiff, numR, memR, valR, heapR, updR, intR, decR, extR, slR, segR, thenR, pnR, Int.reduceToNat, Int.reduceAdd, Int.reduceSub, Int.reduceLT, Int.reduceLE, Nat.reduceSub, Nat.reduceMul, Nat.reduceEqDiff]
  refine Store_spec (a := 8192 + p * 8) (v := (wd fU 6 : Nat)) (hm4.ext hx45 (by simp <;> omega) (by simp <;> omega)) (by omega) (by omega) (.inr (.inr (.inr rfl))) (by omega) ⟨by omega, by omega⟩ fun g6 w6 hm6 _ hx6 => ?_
  have hs6 := hx6.size
  have hd12 := hx6.at hd12 (by simp <;> omega)
  obtain ⟨E, hb6⟩ := hS5.ext hx6 (by simp <;> omega)
  have hM6 := hM4.set (v := wd fU 6) (by omega) (by omega) (by omega)
  have hxw6 : Ext [] w w6 := hxw5.trans hx6 (by simp <;> omega)
  have hl6 := lt_of_at hb6
  have hl12 := lt_of_at hd12
  have hm6l := hm6.lt
  have hF1 : Fit (putS noS (LA a p 5 G5)) := Fit.no.put ⟨5, rfl, by omega⟩
  have h2S1 : Two (putS noS (LA a p 5 G5)) := Two.no.putS _
  have hu6 := un_lt hb6
  simp (disch := first | assumption | omega | (simp only [szR, entC_len, entC_all, fdC_len, fdC_all, un_len, un_all0] <;> omega) | rfl | decide) only [gen0, gen1, gen2, rulesM, rulesU, litR, bolR, Nat.reduceAdd, Nat.reduceLeDiff, numR, memR, valR, heapR, updR, intR, decR, extR, slR, segR, thenR, pnR, Int.reduceToNat, Int.reduceAdd, Int.reduceSub, Int.reduceLT, Int.reduceLE, Nat.reduceSub, Nat.reduceMul, Nat.reduceEqDiff, hb6, un_set, ep]
  by_cases hab : a = b
  · subst hab
    have hdd : decide ((a : Int) ≠ (a : Int)) = false := by simp
    refine thit (ai := a) (p := p) (N := 5) (l := LA a p 5 G5) (S := putS noS (LA a p 5 G5)) (b := w3.heap.size) ⟨E, (by first | with_reducible rfl | assumption | (simp (disch := first | assumption | omega | (simp only [szR, entC_len, entC_all, fdC_len, fdC_all, un_len, un_all0] <;> omega) | rfl | decide) only [gen0, gen1, gen2, rulesM, rulesU, litR, bolR, Nat.reduceAdd, Nat.reduceLeDiff, numR, memR, valR, heapR, updR, intR, decR, extR, slR, segR, thenR, pnR, Int.reduceToNat, Int.reduceAdd, Int.reduceSub, Int.reduceLT, Int.reduceLE, Nat.reduceSub, Nat.reduceMul, Nat.reduceEqDiff, hb6, un_set] <;> rfl) | simp (disch := first | assumption | omega | (simp only [szR, entC_len, entC_all, fdC_len, fdC_all, un_len, un_all0] <;> omega) | rfl | decide) only [gen0, gen1, gen2, rulesM, rulesU, litR, bolR, Nat.reduceAdd, Nat.reduceLeDiff, numR, memR, valR, heapR, updR, intR, decR, extR, slR, segR, thenR, pnR, Int.reduceToNat, Int.reduceAdd, Int.reduceSub, Int.reduceLT, Int.reduceLE, Nat.reduceSub, Nat.reduceMul, Nat.reduceEqDiff, hb6, un_set])⟩ h2S1 hF1 (hm6.ext (S := [w3.heap.size]) (by (repeat first | assumption | exact Ext.refl | apply Ext.alloc | apply Ext.drew | (refine Ext.updN ?_ ?_; (focus first | omega | (simp only [szR] <;> omega))) | (refine Ext.updI ?_ ?_; (focus (simp; done))))) (by simp <;> omega) (by simp <;> omega)) (by omega) (by omega) hp8 (look1 a p 5 G5) rfl a4 a5 fun w7 hx7 => ?_
    rw [n5]
    have hx67 : Ext [w3.heap.size] w6 w7 := Ext.trans (by (repeat first | assumption | exact Ext.refl | apply Ext.alloc | apply Ext.drew | (refine Ext.updN ?_ ?_; (focus first | omega | (simp only [szR] <;> omega))) | (refine Ext.updI ?_ ?_; (focus (simp; done))))) hx7 (by simp)
    have hS7 : At w7 w3.heap.size (putS noS (LA a p 5 G5)) (uT 0 a false) := ⟨E, hx7.at (by first | with_reducible rfl | assumption | (simp (disch := first | assumption | omega | (simp only [szR, entC_len, entC_all, fdC_len, fdC_all, un_len, un_all0] <;> omega) | rfl | decide) only [gen0, gen1, gen2, rulesM, rulesU, litR, bolR, Nat.reduceAdd, Nat.reduceLeDiff, numR, memR, valR, heapR, updR, intR, decR, extR, slR, segR, thenR, pnR, Int.reduceToNat, Int.reduceAdd, Int.reduceSub, Int.reduceLT, Int.reduceLE, Nat.reduceSub, Nat.reduceMul, Nat.reduceEqDiff, hb6, un_set] <;> rfl) | simp (disch := first | assumption | omega | (simp only [szR, entC_len, entC_all, fdC_len, fdC_all, un_len, un_all0] <;> omega) | rfl | decide) only [gen0, gen1, gen2, rulesM, rulesU, litR, bolR, Nat.reduceAdd, Nat.reduceLeDiff, numR, memR, valR, heapR, updR, intR, decR, extR, slR, segR, thenR, pnR, Int.reduceToNat, Int.reduceAdd, Int.reduceSub, Int.reduceLT, Int.reduceLE, Nat.reduceSub, Nat.reduceMul, Nat.reduceEqDiff, hb6, un_set]) (by simp)⟩
    have hm7 := hm6.ext hx67 (by simp <;> omega) (by simp <;> omega)
    have hs7 := hx67.size
    have hs7' := hx7.size
    simp only [szR] at hs7'
    have hd12 := hx67.at hd12 (by simp <;> omega)
    have hl12 := lt_of_at hd12
    have hxw7 : Ext [] w w7 := hxw6.trans hx67 (by simp <;> omega)
    have hm7l := hm7.lt
    have hl7 := lt_of_at hS7.choose_spec
    simp (disch := first | assumption | omega | (simp only [szR, entC_len, entC_all, fdC_len, fdC_all, un_len, un_all0] <;> omega) | rfl | decide) only [gen0, gen1, gen2, rulesM, rulesU, litR, bolR, Nat.reduceAdd, Nat.reduceLeDiff, numR, memR, valR, heapR, updR, intR, decR, extR, slR, segR, thenR, pnR, Int.reduceToNat, Int.reduceAdd, Int.reduceSub, Int.reduceLT, Int.reduceLE, Nat.reduceSub, Nat.reduceMul, Nat.reduceEqDiff, joinR, hd12, hdd]
    refine Flush_spec (a := (a : Int)) (hS7.ext (U := []) (by (repeat first | assumption | exact Ext.refl | apply Ext.alloc | apply Ext.drew | (refine Ext.updN ?_ ?_; (focus first | omega | (simp only [szR] <;> omega))) | (refine Ext.updI ?_ ?_; (focus (simp; done))))) (by simp)) h2S1 fun w8 hS8 hx8 => ?_
    have hx78 : Ext [w3.heap.size] w7 w8 := Ext.trans (by (repeat first | assumption | exact Ext.refl | apply Ext.alloc | apply Ext.drew | (refine Ext.updN ?_ ?_; (focus first | omega | (simp only [szR] <;> omega))) | (refine Ext.updI ?_ ?_; (focus (simp; done))))) hx8 (by simp)
    have hs8 := hx78.size
    have hxw8 : Ext [] w w8 := hxw7.trans hx78 (by simp <;> omega)
    simp (disch := first | assumption | omega | (simp only [szR, entC_len, entC_all, fdC_len, fdC_all, un_len, un_all0] <;> omega) | rfl | decide) only [gen0, gen1, gen2, rulesM, rulesU, litR, bolR, Nat.reduceAdd, Nat.reduceLeDiff, numR, memR, valR, heapR, updR, intR, decR, extR, slR, segR, thenR, pnR, Int.reduceToNat, Int.reduceAdd, Int.reduceSub, Int.reduceLT, Int.reduceLE, Nat.reduceSub, Nat.reduceMul, Nat.reduceEqDiff, ep]
    refine tmiss (ai := a) (p := p) (N := 6) (S := flS (putS noS (LA a p 5 G5)) a) (b := w3.heap.size) hS8 ((h2S1).fl _) ((hF1).fl _) (hm7.ext hx78 (by simp <;> omega) (by simp <;> omega)) (by omega) (by omega) hp8 hM6 (hit_none look3) b1 b2 b3 fun w9 m9 g9 X9 hS9 hm9 hM9 hX9 hx9 => ?_
    rw [n6]
    have hx89 : Ext [w3.heap.size, q] w8 w9 := hx9
    have hs9 := hx89.size
    have hxw9 : Ext [] w w9 := hxw8.trans hx89 (by simp <;> omega)
    obtain ⟨E9, hb9⟩ := hS9
    have hl9 := lt_of_at hb9
    have hm9l := hm9.lt
    have hu9 := un_lt hb9
    simp (disch := first | assumption | omega | (simp only [szR, entC_len, entC_all, fdC_len, fdC_all, un_len, un_all0] <;> omega) | rfl | decide) only [gen0, gen1, gen2, rulesM, rulesU, litR, bolR, Nat.reduceAdd, Nat.reduceLeDiff, numR, memR, valR, heapR, updR, intR, decR, extR, slR, segR, thenR, pnR, Int.reduceToNat, Int.reduceAdd, Int.reduceSub, Int.reduceLT, Int.reduceLE, Nat.reduceSub, Nat.reduceMul, Nat.reduceEqDiff, hb9, un_set, ep]
    refine thit (ai := a) (p := p) (N := 6) (l := LA a p 6 G6) (S := putS (flS (putS noS (LA a p 5 G5)) a) (LA a p 6 _)) (b := w3.heap.size) ⟨E9, (by first | with_reducible rfl | assumption | (simp (disch := first | assumption | omega | (simp only [szR, entC_len, entC_all, fdC_len, fdC_all, un_len, un_all0] <;> omega) | rfl | decide) only [gen0, gen1, gen2, rulesM, rulesU, litR, bolR, Nat.reduceAdd, Nat.reduceLeDiff, numR, memR, valR, heapR, updR, intR, decR, extR, slR, segR, thenR, pnR, Int.reduceToNat, Int.reduceAdd, Int.reduceSub, Int.reduceLT, Int.reduceLE, Nat.reduceSub, Nat.reduceMul, Nat.reduceEqDiff, hb9, un_set] <;> rfl) | simp (disch := first | assumption | omega | (simp only [szR, entC_len, entC_all, fdC_len, fdC_all, un_len, un_all0] <;> omega) | rfl | decide) only [gen0, gen1, gen2, rulesM, rulesU, litR, bolR, Nat.reduceAdd, Nat.reduceLeDiff, numR, memR, valR, heapR, updR, intR, decR, extR, slR, segR, thenR, pnR, Int.reduceToNat, Int.reduceAdd, Int.reduceSub, Int.reduceLT, Int.reduceLE, Nat.reduceSub, Nat.reduceMul, Nat.reduceEqDiff, hb9, un_set])⟩ (((h2S1).fl _).putS _) (((hF1).fl _).put ⟨6, rfl, by omega⟩) (hm9.ext (S := [w3.heap.size]) (by (repeat first | assumption | exact Ext.refl | apply Ext.alloc | apply Ext.drew | (refine Ext.updN ?_ ?_; (focus first | omega | (simp only [szR] <;> omega))) | (refine Ext.updI ?_ ?_; (focus (simp; done))))) (by simp <;> omega) (by simp <;> omega)) (by omega) (by omega) hp8 look4 rfl b4 b5 fun w10 hx10 => ?_
    rw [n6]
    have hs10 := hx10.size
    simp only [szR] at hs10
    have hk10 := kept0 hx10
    have hxw10 : Ext [] w w10 := Ext.trans (S := []) (by (repeat first | assumption | exact Ext.refl | apply Ext.alloc | apply Ext.drew | (refine Ext.updN ?_ ?_; (focus first | omega | (simp only [szR] <;> omega))) | (refine Ext.updI ?_ ?_; (focus (simp; done))))) hx10 (by simp)
    simp (disch := first | assumption | omega | (simp only [szR, entC_len, entC_all, fdC_len, fdC_all, un_len, un_all0] <;> omega) | rfl | decide) only [gen0, gen1, gen2, rulesM, rulesU, litR, bolR, Nat.reduceAdd, Nat.reduceLeDiff, numR, memR, valR, heapR, updR, intR, decR, extR, slR, segR, thenR, pnR, Int.reduceToNat, Int.reduceAdd, Int.reduceSub, Int.reduceLT, Int.reduceLE, Nat.reduceSub, Nat.reduceMul, Nat.reduceEqDiff, joinR, hk10, hdd]
    refine one12_spec fun w11 hx11 => ?_
    simp (disch := first | assumption | omega | (simp only [szR, entC_len, entC_all, fdC_len, fdC_all, un_len, un_all0] <;> omega) | rfl | decide) only [gen0, gen1, gen2, rulesM, rulesU, litR, bolR, Nat.reduceAdd, Nat.reduceLeDiff, numR, memR, valR, heapR, updR, intR, decR, extR, slR, segR, thenR, pnR, Int.reduceToNat, Int.reduceAdd, Int.reduceSub, Int.reduceLT, Int.reduceLE, Nat.reduceSub, Nat.reduceMul, Nat.reduceEqDiff, joinR]
    exact hK _ (Ext.trans (S := []) (by (repeat first | assumption | exact Ext.refl | apply Ext.alloc | apply Ext.drew | (refine Ext.updN ?_ ?_; (focus first | omega | (simp only [szR] <;> omega))) | (refine Ext.updI ?_ ?_; (focus (simp; done))))) hx11 (by simp))
  · have hdd : decide ((a : Int) ≠ (b : Int)) = true := decide_eq_true (by omega)
    refine tmiss (ai := b) (p := p) (X := wd fU 6) (N := 6) (S := putS noS (LA a p 5 G5)) (b := w3.heap.size) ⟨E, (by first | with_reducible rfl | assumption | (simp (disch := first | assumption | omega | (simp only [szR, entC_len, entC_all, fdC_len, fdC_all, un_len, un_all0] <;> omega) | rfl | decide) only [gen0, gen1, gen2, rulesM, rulesU, litR, bolR, Nat.reduceAdd, Nat.reduceLeDiff, numR, memR, valR, heapR, updR, intR, decR, extR, slR, segR, thenR, pnR, Int.reduceToNat, Int.reduceAdd, Int.reduceSub, Int.reduceLT, Int.reduceLE, Nat.reduceSub, Nat.reduceMul, Nat.reduceEqDiff, hb6, un_set] <;> rfl) | simp (disch := first | assumption | omega | (simp only [szR, entC_len, entC_all, fdC_len, fdC_all, un_len, un_all0] <;> omega) | rfl | decide) only [gen0, gen1, gen2, rulesM, rulesU, litR, bolR, Nat.reduceAdd, Nat.reduceLeDiff, numR, memR, valR, heapR, updR, intR, decR, extR, slR, segR, thenR, pnR, Int.reduceToNat, Int.reduceAdd, Int.reduceSub, Int.reduceLT, Int.reduceLE, Nat.reduceSub, Nat.reduceMul, Nat.reduceEqDiff, hb6, un_set])⟩ h2S1 hF1 (hm6.ext (S := [w3.heap.size]) (by (repeat first | assumption | exact Ext.refl | apply Ext.alloc | apply Ext.drew | (refine Ext.updN ?_ ?_; (focus first | omega | (simp only [szR] <;> omega))) | (refine Ext.updI ?_ ?_; (focus (simp; done))))) (by simp <;> omega) (by simp <;> omega)) (by omega) (by omega) hp8 hM6 (hit_none (look2 hab)) b1 b2 b3 fun w7 m7 g7 X7 hS7 hm7 hM7 hX7 hx7 => ?_
    rw [n6]
    have hx67 : Ext [w3.heap.size, q] w6 w7 := Ext.trans (by (repeat first | assumption | exact Ext.refl | apply Ext.alloc | apply Ext.drew | (refine Ext.updN ?_ ?_; (focus first | omega | (simp only [szR] <;> omega))) | (refine Ext.updI ?_ ?_; (focus (simp; done))))) hx7 (by simp)
    obtain ⟨d1, d2, d3⟩ : bad X7 0 8 = false ∧ checkA (fl X7) 1 false false = 0 ∧ fr X7 = 6 := by
      rcases hX7 with rfl | rfl
      · exact ⟨b1, b2, b3⟩
      · exact ⟨c1, c2, c3⟩
    have hs7 := hx67.size
    have hs7' := hx7.size
    simp only [szR] at hs7'
    have hd12 := hx67.at hd12 (by simp <;> omega)
    have hl12 := lt_of_at hd12
    have hxw7 : Ext [] w w7 := hxw6.trans hx67 (by simp <;> omega)
    have hm7l := hm7.lt
    have hl7 := lt_of_at hS7.choose_spec
    simp (disch := first | assumption | omega | (simp only [szR, entC_len, entC_all, fdC_len, fdC_all, un_len, un_all0] <;> omega) | rfl | decide) only [gen0, gen1, gen2, rulesM, rulesU, litR, bolR, Nat.reduceAdd, Nat.reduceLeDiff, numR, memR, valR, heapR, updR, intR, decR, extR, slR, segR, thenR, pnR, Int.reduceToNat, Int.reduceAdd, Int.reduceSub, Int.reduceLT, Int.reduceLE, Nat.reduceSub, Nat.reduceMul, Nat.reduceEqDiff, joinR, hd12, hdd]
    refine Flush_spec (a := (b : Int)) (hS7.ext (U := []) (by (repeat first | assumption | exact Ext.refl | apply Ext.alloc | apply Ext.drew | (refine Ext.updN ?_ ?_; (focus first | omega | (simp only [szR] <;> omega))) | (refine Ext.updI ?_ ?_; (focus (simp; done))))) (by simp)) (h2S1.putS (LA b p 6 G6)) fun w8 hS8 hx8 => ?_
    have hx78 : Ext [w3.heap.size] w7 w8 := Ext.trans (by (repeat first | assumption | exact Ext.refl | apply Ext.alloc | apply Ext.drew | (refine Ext.updN ?_ ?_; (focus first | omega | (simp only [szR] <;> omega))) | (refine Ext.updI ?_ ?_; (focus (simp; done))))) hx8 (by simp)
    have hs8 := hx78.size
    have hxw8 : Ext [] w w8 := hxw7.trans hx78 (by simp <;> omega)
    simp (disch := first | assumption | omega | (simp only [szR, entC_len, entC_all, fdC_len, fdC_all, un_len, un_all0] <;> omega) | rfl | decide) only [gen0, gen1, gen2, rulesM, rulesU, litR, bolR, Nat.reduceAdd, Nat.reduceLeDiff, numR, memR, valR, heapR, updR, intR, decR, extR, slR, segR, thenR, pnR, Int.reduceToNat, Int.reduceAdd, Int.reduceSub, Int.reduceLT, Int.reduceLE, Nat.reduceSub, Nat.reduceMul, Nat.reduceEqDiff, ep]
    refine tmiss (ai := b) (p := p) (N := 6) (S := flS (putS (putS noS (LA a p 5 G5)) (LA b p 6 G6)) b) (b := w3.heap.size) hS8 (((h2S1.putS (LA b p 6 G6))).fl _) (((hF1.put (l := LA b p 6 G6) ⟨6, rfl, by omega⟩)).fl _) (hm7.ext hx78 (by simp <;> omega) (by simp <;> omega)) (by omega) (by omega) hp8 hM7 (hit_none (look5 hab)) d1 d2 d3 fun w9 m9 g9 X9 hS9 hm9 hM9 hX9 hx9 => ?_
    rw [n6]
    have hx89 : Ext [w3.heap.size, q] w8 w9 := hx9
    have hs9 := hx89.size
    have hxw9 : Ext [] w w9 := hxw8.trans hx89 (by simp <;> omega)
    obtain ⟨E9, hb9⟩ := hS9
    have hl9 := lt_of_at hb9
    have hm9l := hm9.lt
    have hu9 := un_lt hb9
    simp (disch := first | assumption | omega | (simp only [szR, entC_len, entC_all, fdC_len, fdC_all, un_len, un_all0] <;> omega) | rfl | decide) only [gen0, gen1, gen2, rulesM, rulesU, litR, bolR, Nat.reduceAdd, Nat.reduceLeDiff, numR, memR, valR, heapR, updR, intR, decR, extR, slR, segR, thenR, pnR, Int.reduceToNat, Int.reduceAdd, Int.reduceSub, Int.reduceLT, Int.reduceLE, Nat.reduceSub, Nat.reduceMul, Nat.reduceEqDiff, hb9, un_set, ep]
    refine thit (ai := a) (p := p) (N := 5) (l := LA a p 5 G5) (S := putS (flS (putS (putS noS (LA a p 5 G5)) (LA b p 6 G6)) b) (LA b p 6 _)) (b := w3.heap.size) ⟨E9, (by first | with_reducible rfl | assumption | (simp (disch := first | assumption | omega | (simp only [szR, entC_len, entC_all, fdC_len, fdC_all, un_len, un_all0] <;> omega) | rfl | decide) only [gen0, gen1, gen2, rulesM, rulesU, litR, bolR, Nat.reduceAdd, Nat.reduceLeDiff, numR, memR, valR, heapR, updR, intR, decR, extR, slR, segR, thenR, pnR, Int.reduceToNat, Int.reduceAdd, Int.reduceSub, Int.reduceLT, Int.reduceLE, Nat.reduceSub, Nat.reduceMul, Nat.reduceEqDiff, hb9, un_set] <;> rfl) | simp (disch := first | assumption | omega | (simp only [szR, entC_len, entC_all, fdC_len, fdC_all, un_len, un_all0] <;> omega) | rfl | decide) only [gen0, gen1, gen2, rulesM, rulesU, litR, bolR, Nat.reduceAdd, Nat.reduceLeDiff, numR, memR, valR, heapR, updR, intR, decR, extR, slR, segR, thenR, pnR, Int.reduceToNat, Int.reduceAdd, Int.reduceSub, Int.reduceLT, Int.reduceLE, Nat.reduceSub, Nat.reduceMul, Nat.reduceEqDiff, hb9, un_set])⟩ ((((h2S1.putS (LA b p 6 G6))).fl _).putS _) ((((hF1.put (l := LA b p 6 G6) ⟨6, rfl, by omega⟩)).fl _).put ⟨6, rfl, by omega⟩) (hm9.ext (S := [w3.heap.size]) (by (repeat first | assumption | exact Ext.refl | apply Ext.alloc | apply Ext.drew | (refine Ext.updN ?_ ?_; (focus first | omega | (simp only [szR] <;> omega))) | (refine Ext.updI ?_ ?_; (focus (simp; done))))) (by simp <;> omega) (by simp <;> omega)) (by omega) (by omega) hp8 (look6 hab) rfl a4 a5 fun w10 hx10 => ?_
    rw [n5]
    have hs10 := hx10.size
    simp only [szR] at hs10
    have hk10 := kept0 hx10
    have hxw10 : Ext [] w w10 := Ext.trans (S := []) (by (repeat first | assumption | exact Ext.refl | apply Ext.alloc | apply Ext.drew | (refine Ext.updN ?_ ?_; (focus first | omega | (simp only [szR] <;> omega))) | (refine Ext.updI ?_ ?_; (focus (simp; done))))) hx10 (by simp)
    simp (disch := first | assumption | omega | (simp only [szR, entC_len, entC_all, fdC_len, fdC_all, un_len, un_all0] <;> omega) | rfl | decide) only [gen0, gen1, gen2, rulesM, rulesU, litR, bolR, Nat.reduceAdd, Nat.reduceLeDiff, numR, memR, valR, heapR, updR, intR, decR, extR, slR, segR, thenR, pnR, Int.reduceToNat, Int.reduceAdd, Int.reduceSub, Int.reduceLT, Int.reduceLE, Nat.reduceSub, Nat.reduceMul, Nat.reduceEqDiff, joinR, hk10, hdd]
    refine one12_spec fun w11 hx11 => ?_
    simp (disch := first | assumption | omega | (simp only [szR, entC_len, entC_all, fdC_len, fdC_all, un_len, un_all0] <;> omega) | rfl | decide) only [gen0, gen1, gen2, rulesM, rulesU, litR, bolR, Nat.reduceAdd, Nat.reduceLeDiff, numR, memR, valR, heapR, updR, intR, decR, extR, slR, segR, thenR, pnR, Int.reduceToNat, Int.reduceAdd, Int.reduceSub, Int.reduceLT, Int.reduceLE, Nat.reduceSub, Nat.reduceMul, Nat.reduceEqDiff, joinR]
    exact hK _ (Ext.trans (S := []) (by (repeat first | assumption | exact Ext.refl | apply Ext.alloc | apply Ext.drew | (refine Ext.updN ?_ ?_; (focus first | omega | (simp only [szR] <;> omega))) | (refine Ext.updI ?_ ?_; (focus (simp; done))))) hx11 (by simp))
end Go.Proofs.Ytbigiabcgplkgaa
