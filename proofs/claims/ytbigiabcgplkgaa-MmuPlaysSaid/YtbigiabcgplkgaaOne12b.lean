/- A page that is kept, when its entry is gone: the walk; conditions: those of each theorem. -/
import Derived.Test.YtbigiabcgplkgaaOne12
namespace Go.Proofs.Ytbigiabcgplkgaa
open Go.Fx
set_option maxRecDepth 100000
set_option linter.unusedSimpArgs false
set_option linter.unusedVariables false
theorem hit_put {ai p : Nat} {F : Nat → Bool} {n a va : Nat} {k : Int} {t g : Bool} (hva : va / 4096 = p) (hc : checkA F k t g = 0) (he : eqE (markA F k t) n F n = true) : hitA (putS noS ⟨ai, p, F, n, a⟩) ai va k t g = some (.tuple #[.agg (plA F n va k).toArray, .int .i64 0]) := by
  have hl : look (putS noS ⟨ai, p, F, n, a⟩) ai (va / 4096 : Nat) = (⟨ai, p, F, n, a⟩, true) := by
    rw [hva]
    unfold look putS put4 noS put2
    simp
  unfold hitA
  rw [hl]
  simp only
  rw [if_pos hc, Int.toNat_natCast, if_pos he]
set_option maxHeartbeats 4000000 in
theorem one12_spec {w : World} {K : Value → World → Prop} (hK : ∀ w', Ext [] w w' → K (.bool true) w') : callsK Try.prog 30 #[] w K := by
  have hsr : ∀ L : List Value, L.length = 4 → splice [.int .i64 0, .slice none 0 0, .slice none 0 0, .slice none 0 0] 0 L = L := fun L h => splice_all (by rw [h]; rfl)
  have hspU : ∀ a, splice (tlbC noS ++ uT 0 0 false) 0 (tlbC noS ++ uT 0 a false) = tlbC noS ++ uT 0 a false := fun a => splice_over (by rw [un_len, un_len])
  have hdrU : ∀ a, (tlbC noS ++ uT 0 a false) ++ List.drop (tlbC noS ++ uT 0 a false).length (tlbC noS ++ uT 0 0 false) = tlbC noS ++ uT 0 a false := fun a => by rw [un_len, List.drop_eq_nil_of_le (by rw [un_len]; omega), List.append_nil]
  have b3 : ∀ w, (Instr.build 74 [(2, .int .u64 3)].toArray).run Try.prog w = .ok (.agg (tlbC noS ++ uT 0 3 false).toArray) w := blU2 3
  obtain ⟨q1, q2, q3, q4, q5⟩ := wU_check
  apply F30_ok
  unfold F30
  simp (disch := first | assumption | omega | (simp only [szR, entC_len, entC_all, fdC_len, fdC_all, un_len, un_all0] <;> omega) | rfl | decide) only [gen0, gen1, gen2, rulesM, rulesU, litR, bolR, Nat.reduceAdd, Nat.reduceLeDiff, numR, memR, valR, heapR, updR, intR, decR, extR, slR, segR, thenR, pnR, Int.reduceToNat, Int.reduceAdd, Int.reduceSub, Int.reduceLT, Int.reduceLE, Nat.reduceSub, Nat.reduceMul, Nat.reduceEqDiff]
  refine setup_spec fun w1 r q base c g L P va vb hm hr hc hrb hqb hwr hwq hbw hx1 => ?_
  have hs1 := hx1.size
  obtain ⟨hlenL, hallL, hsubL⟩ := hr.cells
  have hm1l := hm.lt
  simp (disch := first | assumption | omega | (simp only [szR, entC_len, entC_all, fdC_len, fdC_all, un_len, un_all0] <;> omega) | rfl | decide) only [gen0, gen1, gen2, rulesM, rulesU, litR, bolR, Nat.reduceAdd, Nat.reduceLeDiff, numR, memR, valR, heapR, updR, intR, decR, extR, slR, segR, thenR, pnR, Int.reduceToNat, Int.reduceAdd, Int.reduceSub, Int.reduceLT, Int.reduceLE, Nat.reduceSub, Nat.reduceMul, Nat.reduceEqDiff, hlenL, hallL, hsr, foldU]
  refine Word_spec (n := 5) (by omega) fun w2 hx2 => ?_
  have hx12 : Ext [] w1 w2 := Ext.trans (S := []) (by (repeat first | assumption | exact Ext.refl | apply Ext.alloc | apply Ext.drew | (refine Ext.updN ?_ ?_; (focus first | omega | (simp only [szR] <;> omega))) | (refine Ext.updI ?_ ?_; (focus (simp; done))))) hx2 (by simp)
  have hs2 := hx12.size
  have hwl := wd_lt fU 5
  simp (disch := first | assumption | omega | (simp only [szR, entC_len, entC_all, fdC_len, fdC_all, un_len, un_all0] <;> omega) | rfl | decide) only [gen0, gen1, gen2, rulesM, rulesU, litR, bolR, Nat.reduceAdd, Nat.reduceLeDiff, numR, memR, valR, heapR, updR, intR, decR, extR, slR, segR, thenR, pnR, Int.reduceToNat, Int.reduceAdd, Int.reduceSub, Int.reduceLT, Int.reduceLE, Nat.reduceSub, Nat.reduceMul, Nat.reduceEqDiff]
  refine Store_spec (a := 8192) (v := (wd fU 5 : Nat)) (hm.ext hx12 (by simp) (by simp)) (by omega) (by omega) (.inr (.inr (.inr rfl))) (by omega) ⟨by omega, by omega⟩ fun g3 w3 hm3 _ hx3 => ?_
  have hs3 := hx3.size
  have hxw3 : Ext [] w w3 := ((hx1.trans hx12 (by simp)).mono (by simp)).trans hx3 (by simp <;> omega)
  simp (disch := first | assumption | omega | (simp only [szR, entC_len, entC_all, fdC_len, fdC_all, un_len, un_all0] <;> omega) | rfl | decide) only [gen0, gen1, gen2, rulesM, rulesU, litR, bolR, Nat.reduceAdd, Nat.reduceLeDiff, numR, memR, valR, heapR, updR, intR, decR, extR, slR, segR, thenR, pnR, Int.reduceToNat, Int.reduceAdd, Int.reduceSub, Int.reduceLT, Int.reduceLE, Nat.reduceSub, Nat.reduceMul, Nat.reduceEqDiff, b3, zeroU, hspU, hdrU]
  have hW1 : ∀ b, b % 8 = 0 → leN (stored (laidM twoE) 8192 8 (wd fU 5 : Nat)) b 8 = setW (laidW twoE) 8192 (wd fU 5) b := walkA_stored (by omega) (by omega) fun b hb => laidW_eq _ hb
  have hm3l := hm3.lt
  refine Translate_put (b := w3.heap.size) (S := noS) (ro := 0) (ai := 3) (g := false) (va := 4) (x := wd fU 5) (a := 8192) ⟨74, (by first | with_reducible rfl | assumption | (simp (disch := first | assumption | omega | (simp only [szR, entC_len, entC_all, fdC_len, fdC_all, un_len, un_all0] <;> omega) | rfl | decide) only [gen0, gen1, gen2, rulesM, rulesU, litR, bolR, Nat.reduceAdd, Nat.reduceLeDiff, numR, memR, valR, heapR, updR, intR, decR, extR, slR, segR, thenR, pnR, Int.reduceToNat, Int.reduceAdd, Int.reduceSub, Int.reduceLT, Int.reduceLE, Nat.reduceSub, Nat.reduceMul, Nat.reduceEqDiff, zeroU, hspU, hdrU] <;> rfl))⟩ Two.no Fit.no (hm3.ext (S := []) (by (repeat first | assumption | exact Ext.refl | apply Ext.alloc | apply Ext.drew | (refine Ext.updN ?_ ?_; (focus first | omega | (simp only [szR] <;> omega))) | (refine Ext.updI ?_ ?_; (focus (simp; done))))) (by simp) (by simp)) (by omega) (by omega) (by omega) (by omega) rfl ((walkA_congr hW1 8 0 4).trans wU_walk) q1 fun w4 m4 g4 hS4 hm4 hcase hx4 => ?_
  have hm4' : m4 = stored (stored (laidM twoE) 8192 8 (wd fU 5 : Nat)) 8192 8 (wd (markA (fl (wd fU 5)) 1 false) (fr (wd fU 5)) : Nat) := by
    rcases hcase with ⟨-, h⟩ | h
    · rw [q2] at h
      cases h
    · exact h
  subst hm4'
  have hx34 : Ext [w3.heap.size, q] w3 w4 := Ext.trans (by (repeat first | assumption | exact Ext.refl | apply Ext.alloc | apply Ext.drew | (refine Ext.updN ?_ ?_; (focus first | omega | (simp only [szR] <;> omega))) | (refine Ext.updI ?_ ?_; (focus (simp; done))))) hx4 (by simp)
  have hs4 := hx34.size
  have hs4' := hx4.size
  simp only [szR] at hs4'
  have hxw4 : Ext [] w w4 := hxw3.trans hx34 (by simp <;> omega)
  have p4 : plA (markA (fl (wd fU 5)) 1 false) (fr (wd fU 5)) 4 1 = [.int .u64 20484, .bool false] := by
    rw [q3]
    rfl
  rw [p4]
  simp (disch := first | assumption | omega | (simp only [szR, entC_len, entC_all, fdC_len, fdC_all, un_len, un_all0] <;> omega) | rfl | decide) only [gen0, gen1, gen2, rulesM, rulesU, litR, bolR, Nat.reduceAdd, Nat.reduceLeDiff, numR, memR, valR, heapR, updR, intR, decR, extR, slR, segR, thenR, pnR, Int.reduceToNat, Int.reduceAdd, Int.reduceSub, Int.reduceLT, Int.reduceLE, Nat.reduceSub, Nat.reduceMul, Nat.reduceEqDiff]
  refine Store_spec (a := 8192) (v := 0) (hm4.ext (S := []) (by (repeat first | assumption | exact Ext.refl | apply Ext.alloc | apply Ext.drew | (refine Ext.updN ?_ ?_; (focus first | omega | (simp only [szR] <;> omega))) | (refine Ext.updI ?_ ?_; (focus (simp; done))))) (by simp) (by simp)) (by omega) (by omega) (.inr (.inr (.inr rfl))) (by omega) ⟨by omega, by omega⟩ fun g5 w5 hm5 _ hx5 => ?_
  have hs5 := hx5.size
  simp only [szR] at hs5
  have hc4 : w5.heap[w4.heap.size]? = some (.cells [.int .u64 20484, .bool false].toArray 76 (0, 0)) := hx5.at (by first | with_reducible rfl | assumption | (simp (disch := first | assumption | omega | (simp only [szR, entC_len, entC_all, fdC_len, fdC_all, un_len, un_all0] <;> omega) | rfl | decide) only [gen0, gen1, gen2, rulesM, rulesU, litR, bolR, Nat.reduceAdd, Nat.reduceLeDiff, numR, memR, valR, heapR, updR, intR, decR, extR, slR, segR, thenR, pnR, Int.reduceToNat, Int.reduceAdd, Int.reduceSub, Int.reduceLT, Int.reduceLE, Nat.reduceSub, Nat.reduceMul, Nat.reduceEqDiff] <;> rfl)) (by simp <;> omega)
  have hx45 : Ext [q] w4 w5 := Ext.trans (by (repeat first | assumption | exact Ext.refl | apply Ext.alloc | apply Ext.drew | (refine Ext.updN ?_ ?_; (focus first | omega | (simp only [szR] <;> omega))) | (refine Ext.updI ?_ ?_; (focus (simp; done))))) hx5 (by simp)
  have hS5 := hS4.ext hx45 (by simp <;> omega)
  have hxw5 : Ext [] w w5 := hxw4.trans hx45 (by simp <;> omega)
  have hh : hitA (putS noS ⟨(3 : Nat), (4 / 4096 : Nat), markA (fl (wd fU 5)) 1 false, fr (wd fU 5), (8192 : Nat)⟩) 3 5 1 false false = some (.tuple #[.agg (plA (markA (fl (wd fU 5)) 1 false) (fr (wd fU 5)) 5 1).toArray, .int .i64 0]) := hit_put rfl q4 (by rw [q3]; exact q5)
  simp (disch := first | assumption | omega | (simp only [szR, entC_len, entC_all, fdC_len, fdC_all, un_len, un_all0] <;> omega) | rfl | decide) only [gen0, gen1, gen2, rulesM, rulesU, litR, bolR, Nat.reduceAdd, Nat.reduceLeDiff, numR, memR, valR, heapR, updR, intR, decR, extR, slR, segR, thenR, pnR, Int.reduceToNat, Int.reduceAdd, Int.reduceSub, Int.reduceLT, Int.reduceLE, Nat.reduceSub, Nat.reduceMul, Nat.reduceEqDiff]
  refine Translate_hit (b := w3.heap.size) (ro := 0) (ai := 3) (g := false) (va := 5) hS5 (Two.no.putS _) (Fit.no.put ⟨fr (wd fU 5), rfl, fr_lt _⟩) hm5 (by omega) (by omega) (by omega) (by omega) hh fun w6 hx6 => ?_
  have p5 : plA (markA (fl (wd fU 5)) 1 false) (fr (wd fU 5)) 5 1 = [.int .u64 20485, .bool false] := by
    rw [q3]
    rfl
  rw [p5]
  have hs6 := hx6.size
  have hc4 := hx6.at hc4 (by simp)
  have hl4 := lt_of_at hc4
  have hxw6 := hxw5.trans hx6 (by simp)
  have hW3 : ∀ b, b % 8 = 0 → leN (stored (stored (stored (laidM twoE) 8192 8 (wd fU 5 : Nat)) 8192 8 (wd (markA (fl (wd fU 5)) 1 false) (fr (wd fU 5)) : Nat)) 8192 8 (0 : Int)) b 8 = setW (setW (setW (laidW twoE) 8192 (wd fU 5)) 8192 (wd (markA (fl (wd fU 5)) 1 false) (fr (wd fU 5)))) 8192 0 b :=
    walkA_stored (v := 0) (by omega) (by omega) (walkA_stored (by omega) (by have := wd_lt (markA (fl (wd fU 5)) 1 false) (fr (wd fU 5)); omega) hW1)
  simp (disch := first | assumption | omega | (simp only [szR, entC_len, entC_all, fdC_len, fdC_all, un_len, un_all0] <;> omega) | rfl | decide) only [gen0, gen1, gen2, rulesM, rulesU, litR, bolR, Nat.reduceAdd, Nat.reduceLeDiff, numR, memR, valR, heapR, updR, intR, decR, extR, slR, segR, thenR, pnR, Int.reduceToNat, Int.reduceAdd, Int.reduceSub, Int.reduceLT, Int.reduceLE, Nat.reduceSub, Nat.reduceMul, Nat.reduceEqDiff]
  refine Plain_spec (b := w3.heap.size) (ro := 0) (ai := 3) (g := false) (va := 5) ((hS5.ext hx6 (by simp)).ext (U := []) (by (repeat first | assumption | exact Ext.refl | apply Ext.alloc | apply Ext.drew | (refine Ext.updN ?_ ?_; (focus first | omega | (simp only [szR] <;> omega))) | (refine Ext.updI ?_ ?_; (focus (simp; done))))) (by simp)) ((hm5.ext hx6 (by simp) (by simp)).ext (S := []) (by (repeat first | assumption | exact Ext.refl | apply Ext.alloc | apply Ext.drew | (refine Ext.updN ?_ ?_; (focus first | omega | (simp only [szR] <;> omega))) | (refine Ext.updI ?_ ?_; (focus (simp; done))))) (by simp) (by simp)) (by omega) (by omega) fun w7 hx7 => ?_
  rw [walkA_congr hW3 8 0 5, wU_gone _ rfl]
  simp only [pnR', plC]
  have hk7 := kept0 hx7
  have hs7 := hx7.size
  simp only [szR] at hs7
  have hxw7 : Ext [] w w7 := Ext.trans (S := []) (by (repeat first | assumption | exact Ext.refl | apply Ext.alloc | apply Ext.drew | (refine Ext.updN ?_ ?_; (focus first | omega | (simp only [szR] <;> omega))) | (refine Ext.updI ?_ ?_; (focus (simp; done))))) hx7 (by simp)
  simp (disch := first | assumption | omega | (simp only [szR, entC_len, entC_all, fdC_len, fdC_all, un_len, un_all0] <;> omega) | rfl | decide) only [gen0, gen1, gen2, rulesM, rulesU, litR, bolR, Nat.reduceAdd, Nat.reduceLeDiff, numR, memR, valR, heapR, updR, intR, decR, extR, slR, segR, thenR, pnR, Int.reduceToNat, Int.reduceAdd, Int.reduceSub, Int.reduceLT, Int.reduceLE, Nat.reduceSub, Nat.reduceMul, Nat.reduceEqDiff, joinR, hk7, hc4]
  exact hK _ (by (repeat first | assumption | exact Ext.refl | apply Ext.alloc | apply Ext.drew | (refine Ext.updN ?_ ?_; (focus first | omega | (simp only [szR] <;> omega))) | (refine Ext.updI ?_ ?_; (focus (simp; done)))))
end Go.Proofs.Ytbigiabcgplkgaa
