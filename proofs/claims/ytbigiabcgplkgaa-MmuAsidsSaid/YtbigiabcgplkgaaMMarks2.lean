/- What is translated marks the entry, in memory: the walk; conditions: those of each theorem. -/
import Derived.Test.YtbigiabcgplkgaaMMarks
import Derived.Test.YtbigiabcgplkgaaApart2
namespace Go.Proofs.Ytbigiabcgplkgaa
open Go.Fx
set_option maxRecDepth 100000
set_option linter.unusedSimpArgs false
set_option linter.unusedVariables false
theorem eqE_of {f g : Nat → Bool} {n m : Nat} (h : ∀ j, j < 12 → f j = g j) (h2 : n = m) : eqE f n g m = true := eqE_iff.2 ⟨h, h2⟩
theorem set12n (f : Nat → Bool) (n k : Nat) : (entC f n).set 12 (.int .u64 (k : Int)) = entC f k := by simp [entC]
set_option maxHeartbeats 8000000 in
theorem mmarks_spec {w : World} {e : EntE} {l : Int × Int} {t : Bool} (hn : e.n < 18446744073709551616) {K : Value → World → Prop} (hK : ∀ w', Ext [] w w' → K (.bool true) w') : callsK Try.prog 8 #[.agg (entE e).toArray, .agg (i2C l).toArray, .bool t] w K := by
  obtain ⟨f, n⟩ := e
  obtain ⟨k1, k2⟩ := l
  have e1 : entE ⟨f, n⟩ = entC f n := rfl
  have e2 : i2C (k1, k2) = [.int .i64 k1, .int .i64 k2] := rfl
  rw [e1, e2]
  clear e1 e2
  simp only at hn
  have hmask : bitI .and .u64 (n : Int) 3 = (n : Int) % 4 := and_mask (k := .u64) (n := 2) (by decide)
  obtain ⟨n', hn', hn8⟩ : ∃ n' : Nat, (3 : Int) + (n : Int) % 4 = n' ∧ n' < 8 := ⟨3 + n % 4, by omega, by omega⟩
  have hsr : ∀ L : List Value, L.length = 4 → splice [.int .i64 0, .slice none 0 0, .slice none 0 0, .slice none 0 0] 0 L = L := fun L h => splice_all (by rw [h]; rfl)
  have hse : ∀ f n, splice [Value.bool false, .bool false, .bool false, .bool false, .bool false, .bool false, .bool false, .bool false, .bool false, .bool false, .bool false, .bool false, .int .u64 0] 0 (entC f n) = entC f n := fun f n => splice_over (by rw [entC_len]; rfl)
  have hspU : ∀ g, splice (tlbC noS ++ uT 0 0 false) 0 (tlbC noS ++ uT 0 0 g) = tlbC noS ++ uT 0 0 g := fun a => splice_over (by rw [un_len, un_len])
  have hdrU : ∀ g, (tlbC noS ++ uT 0 0 g) ++ List.drop (tlbC noS ++ uT 0 0 g).length (tlbC noS ++ uT 0 0 false) = tlbC noS ++ uT 0 0 g := fun a => by rw [un_len, List.drop_eq_nil_of_le (by rw [un_len]; omega), List.append_nil]
  have hUl : (tlbC noS ++ uT 0 0 (f 11)).length = 135 := un_len _ _ _ _
  have hUa := un_all0 0 0 (f 11)
  have hUz : (tlbC noS ++ uT 0 0 false).length = 135 := un_len _ _ _ _
  apply F8_ok
  unfold F8
  simp (disch := first | assumption | omega | (simp only [szR, entC_len, entC_all, fdC_len, fdC_all, un_len, un_all0] <;> omega) | rfl | decide) only [gen0, gen1, gen2, rulesM, rulesU, litR, bolR, Nat.reduceAdd, Nat.reduceLeDiff, numR, memR, valR, heapR, updR, intR, decR, extR, slR, segR, thenR, pnR, Int.reduceToNat, Int.reduceAdd, Int.reduceSub, Int.reduceLT, Int.reduceLE, Nat.reduceSub, Nat.reduceMul, Nat.reduceEqDiff]
  refine setup_spec fun w1 r q base c g0 L P va vb hm hr hc hrb hqb hwr hwq hbw hx1 => ?_
  have hs1 := hx1.size
  simp only [szR] at hs1 hwr hwq
  have hk1 := kept0 hx1
  obtain ⟨hlenL, hallL, hsubL⟩ := hr.cells
  have hm1l := hm.lt
  have hxw1 : Ext [] w w1 := Ext.trans (S := []) (by (repeat first | assumption | exact Ext.refl | apply Ext.alloc | apply Ext.drew | (refine Ext.updN ?_ ?_; (focus first | omega | (simp only [szR] <;> omega))) | (refine Ext.updI ?_ ?_; (focus (simp; done))))) hx1 (by simp)
  have hc3 : w1.heap[w.heap.size]? = some (.cells (entC f n).toArray 32 (0, 0)) := (by first | with_reducible rfl | assumption | (simp (disch := first | assumption | omega | (simp only [szR, entC_len, entC_all, fdC_len, fdC_all, un_len, un_all0] <;> omega) | rfl | decide) only [gen0, gen1, gen2, rulesM, rulesU, litR, bolR, Nat.reduceAdd, Nat.reduceLeDiff, numR, memR, valR, heapR, updR, intR, decR, extR, slR, segR, thenR, pnR, Int.reduceToNat, Int.reduceAdd, Int.reduceSub, Int.reduceLT, Int.reduceLE, Nat.reduceSub, Nat.reduceMul, Nat.reduceEqDiff, hk1] <;> rfl) | simp (disch := first | assumption | omega | (simp only [szR, entC_len, entC_all, fdC_len, fdC_all, un_len, un_all0] <;> omega) | rfl | decide) only [gen0, gen1, gen2, rulesM, rulesU, litR, bolR, Nat.reduceAdd, Nat.reduceLeDiff, numR, memR, valR, heapR, updR, intR, decR, extR, slR, segR, thenR, pnR, Int.reduceToNat, Int.reduceAdd, Int.reduceSub, Int.reduceLT, Int.reduceLE, Nat.reduceSub, Nat.reduceMul, Nat.reduceEqDiff, hk1])
  have hc4 : w1.heap[w.heap.size + 1]? = some (.cells [.int .i64 k1, .int .i64 k2].toArray 42 (0, 0)) := (by first | with_reducible rfl | assumption | (simp (disch := first | assumption | omega | (simp only [szR, entC_len, entC_all, fdC_len, fdC_all, un_len, un_all0] <;> omega) | rfl | decide) only [gen0, gen1, gen2, rulesM, rulesU, litR, bolR, Nat.reduceAdd, Nat.reduceLeDiff, numR, memR, valR, heapR, updR, intR, decR, extR, slR, segR, thenR, pnR, Int.reduceToNat, Int.reduceAdd, Int.reduceSub, Int.reduceLT, Int.reduceLE, Nat.reduceSub, Nat.reduceMul, Nat.reduceEqDiff, hk1] <;> rfl) | simp (disch := first | assumption | omega | (simp only [szR, entC_len, entC_all, fdC_len, fdC_all, un_len, un_all0] <;> omega) | rfl | decide) only [gen0, gen1, gen2, rulesM, rulesU, litR, bolR, Nat.reduceAdd, Nat.reduceLeDiff, numR, memR, valR, heapR, updR, intR, decR, extR, slR, segR, thenR, pnR, Int.reduceToNat, Int.reduceAdd, Int.reduceSub, Int.reduceLT, Int.reduceLE, Nat.reduceSub, Nat.reduceMul, Nat.reduceEqDiff, hk1])
  simp (disch := first | assumption | omega | (simp only [szR, entC_len, entC_all, fdC_len, fdC_all, un_len, un_all0] <;> omega) | rfl | decide) only [gen0, gen1, gen2, rulesM, rulesU, litR, bolR, Nat.reduceAdd, Nat.reduceLeDiff, numR, memR, valR, heapR, updR, intR, decR, extR, slR, segR, thenR, pnR, Int.reduceToNat, Int.reduceAdd, Int.reduceSub, Int.reduceLT, Int.reduceLE, Nat.reduceSub, Nat.reduceMul, Nat.reduceEqDiff, hlenL, hallL, hsr, hc3, entC_at, hmask, hn', set12n, entC_sub]
  refine Word_spec (n := n') (by omega) fun w2 hx2 => ?_
  have hk2 := kept0 hx2
  have hs2' := hx2.size
  simp only [szR] at hs2'
  have hx12 : Ext [w.heap.size] w1 w2 := Ext.trans (by (repeat first | assumption | exact Ext.refl | apply Ext.alloc | apply Ext.drew | (refine Ext.updN ?_ ?_; (focus first | omega | (simp only [szR] <;> omega))) | (refine Ext.updI ?_ ?_; (focus (simp; done))))) hx2 (by simp)
  have hs2 := hx12.size
  have hd3 : w2.heap[w.heap.size]? = some (.cells (entC f n').toArray 32 (0, 0)) := (by first | with_reducible rfl | assumption | (simp (disch := first | assumption | omega | (simp only [szR, entC_len, entC_all, fdC_len, fdC_all, un_len, un_all0] <;> omega) | rfl | decide) only [gen0, gen1, gen2, rulesM, rulesU, litR, bolR, Nat.reduceAdd, Nat.reduceLeDiff, numR, memR, valR, heapR, updR, intR, decR, extR, slR, segR, thenR, pnR, Int.reduceToNat, Int.reduceAdd, Int.reduceSub, Int.reduceLT, Int.reduceLE, Nat.reduceSub, Nat.reduceMul, Nat.reduceEqDiff, hk2, hc3, set12n] <;> rfl) | simp (disch := first | assumption | omega | (simp only [szR, entC_len, entC_all, fdC_len, fdC_all, un_len, un_all0] <;> omega) | rfl | decide) only [gen0, gen1, gen2, rulesM, rulesU, litR, bolR, Nat.reduceAdd, Nat.reduceLeDiff, numR, memR, valR, heapR, updR, intR, decR, extR, slR, segR, thenR, pnR, Int.reduceToNat, Int.reduceAdd, Int.reduceSub, Int.reduceLT, Int.reduceLE, Nat.reduceSub, Nat.reduceMul, Nat.reduceEqDiff, hk2, hc3, set12n])
  have hc4 := hx12.at hc4 (by simp)
  have hxw2 : Ext [] w w2 := hxw1.trans hx12 (by simp)
  have hwl := wd_lt f n'
  simp (disch := first | assumption | omega | (simp only [szR, entC_len, entC_all, fdC_len, fdC_all, un_len, un_all0] <;> omega) | rfl | decide) only [gen0, gen1, gen2, rulesM, rulesU, litR, bolR, Nat.reduceAdd, Nat.reduceLeDiff, numR, memR, valR, heapR, updR, intR, decR, extR, slR, segR, thenR, pnR, Int.reduceToNat, Int.reduceAdd, Int.reduceSub, Int.reduceLT, Int.reduceLE, Nat.reduceSub, Nat.reduceMul, Nat.reduceEqDiff]
  refine Store_spec (a := 8216) (v := (wd f n' : Nat)) (hm.ext hx12 (by simp <;> omega) (by simp <;> omega)) (by omega) (by omega) (.inr (.inr (.inr rfl))) (by omega) ⟨by omega, by omega⟩ fun g3 w3 hm3 _ hx3 => ?_
  have hs3 := hx3.size
  have hd3 := hx3.at hd3 (by simp <;> omega)
  have hc4 := hx3.at hc4 (by simp <;> omega)
  have hxw3 : Ext [] w w3 := hxw2.trans hx3 (by simp <;> omega)
  have hm3l := hm3.lt
  simp (disch := first | assumption | omega | (simp only [szR, entC_len, entC_all, fdC_len, fdC_all, un_len, un_all0] <;> omega) | rfl | decide) only [gen0, gen1, gen2, rulesM, rulesU, litR, bolR, Nat.reduceAdd, Nat.reduceLeDiff, numR, memR, valR, heapR, updR, intR, decR, extR, slR, segR, thenR, pnR, Int.reduceToNat, Int.reduceAdd, Int.reduceSub, Int.reduceLT, Int.reduceLE, Nat.reduceSub, Nat.reduceMul, Nat.reduceEqDiff, hd3, entC_at, entC_sub, blU3, zeroU, hspU, hdrU]
  refine Word_spec (n := n') (by omega) fun w4 hx4 => ?_
  have hk4 := kept0 hx4
  have hs4' := hx4.size
  simp only [szR] at hs4'
  have hx34 : Ext [] w3 w4 := Ext.trans (S := []) (by (repeat first | assumption | exact Ext.refl | apply Ext.alloc | apply Ext.drew | (refine Ext.updN ?_ ?_; (focus first | omega | (simp only [szR] <;> omega))) | (refine Ext.updI ?_ ?_; (focus (simp; done))))) hx4 (by simp)
  have hS4 : At w4 w3.heap.size noS (uT 0 0 (f 11)) := ⟨74, (by first | with_reducible rfl | assumption | (simp (disch := first | assumption | omega | (simp only [szR, entC_len, entC_all, fdC_len, fdC_all, un_len, un_all0] <;> omega) | rfl | decide) only [gen0, gen1, gen2, rulesM, rulesU, litR, bolR, Nat.reduceAdd, Nat.reduceLeDiff, numR, memR, valR, heapR, updR, intR, decR, extR, slR, segR, thenR, pnR, Int.reduceToNat, Int.reduceAdd, Int.reduceSub, Int.reduceLT, Int.reduceLE, Nat.reduceSub, Nat.reduceMul, Nat.reduceEqDiff, hk4, zeroU, hspU, hdrU] <;> rfl) | simp (disch := first | assumption | omega | (simp only [szR, entC_len, entC_all, fdC_len, fdC_all, un_len, un_all0] <;> omega) | rfl | decide) only [gen0, gen1, gen2, rulesM, rulesU, litR, bolR, Nat.reduceAdd, Nat.reduceLeDiff, numR, memR, valR, heapR, updR, intR, decR, extR, slR, segR, thenR, pnR, Int.reduceToNat, Int.reduceAdd, Int.reduceSub, Int.reduceLT, Int.reduceLE, Nat.reduceSub, Nat.reduceMul, Nat.reduceEqDiff, hk4, zeroU, hspU, hdrU])⟩
  have hc4 := hx34.at hc4 (by simp)
  have hxw4 := hxw3.trans hx34 (by simp)
  simp (disch := first | assumption | omega | (simp only [szR, entC_len, entC_all, fdC_len, fdC_all, un_len, un_all0] <;> omega) | rfl | decide) only [gen0, gen1, gen2, rulesM, rulesU, litR, bolR, Nat.reduceAdd, Nat.reduceLeDiff, numR, memR, valR, heapR, updR, intR, decR, extR, slR, segR, thenR, pnR, Int.reduceToNat, Int.reduceAdd, Int.reduceSub, Int.reduceLT, Int.reduceLE, Nat.reduceSub, Nat.reduceMul, Nat.reduceEqDiff]
  refine Of_spec (by omega) fun w5 hx5 => ?_
  have hs5 := hx5.size
  have hcx : entC (fl (wd f n')) (fr (wd f n')) = entC f n' := by
    rw [fr_wd, Nat.mod_eq_of_lt (by omega)]
    exact entC_congr fun j hj => fl_wd _ _ _ hj
  rw [hcx]
  have hS5 := hS4.ext hx5 (by simp)
  have hx45 : Ext [] w3 w5 := hx34.trans hx5 (by simp)
  have hm5 := hm3.ext hx45 (by simp) (by simp)
  have hc4 := hx5.at hc4 (by simp)
  have hxw5 := hxw4.trans hx5 (by simp)
  have hl4 := lt_of_at hc4
  have hbU := lt_of_at hS5.choose_spec
  simp (disch := first | assumption | omega | (simp only [szR, entC_len, entC_all, fdC_len, fdC_all, un_len, un_all0] <;> omega) | rfl | decide) only [gen0, gen1, gen2, rulesM, rulesU, litR, bolR, Nat.reduceAdd, Nat.reduceLeDiff, numR, memR, valR, heapR, updR, intR, decR, extR, slR, segR, thenR, pnR, Int.reduceToNat, Int.reduceAdd, Int.reduceSub, Int.reduceLT, Int.reduceLE, Nat.reduceSub, Nat.reduceMul, Nat.reduceEqDiff, hse]
  refine loopT_at fun W0 hW0 => ?_
  have hx50 : Ext [] w5 W0 := by
    rw [hW0]
    (repeat first | assumption | exact Ext.refl | apply Ext.alloc | apply Ext.drew | (refine Ext.updN ?_ ?_; (focus first | omega | (simp only [szR] <;> omega))) | (refine Ext.updI ?_ ?_; (focus (simp; done))))
  have hd10 : W0.heap[w5.heap.size]? = some (.cells (entC f n').toArray 32 (0, 0)) := by
    rw [hW0]
    (first | with_reducible rfl | assumption | (simp (disch := first | assumption | omega | (simp only [szR, entC_len, entC_all, fdC_len, fdC_all, un_len, un_all0] <;> omega) | rfl | decide) only [gen0, gen1, gen2, rulesM, rulesU, litR, bolR, Nat.reduceAdd, Nat.reduceLeDiff, numR, memR, valR, heapR, updR, intR, decR, extR, slR, segR, thenR, pnR, Int.reduceToNat, Int.reduceAdd, Int.reduceSub, Int.reduceLT, Int.reduceLE, Nat.reduceSub, Nat.reduceMul, Nat.reduceEqDiff, hse] <;> rfl) | simp (disch := first | assumption | omega | (simp only [szR, entC_len, entC_all, fdC_len, fdC_all, un_len, un_all0] <;> omega) | rfl | decide) only [gen0, gen1, gen2, rulesM, rulesU, litR, bolR, Nat.reduceAdd, Nat.reduceLeDiff, numR, memR, valR, heapR, updR, intR, decR, extR, slR, segR, thenR, pnR, Int.reduceToNat, Int.reduceAdd, Int.reduceSub, Int.reduceLT, Int.reduceLE, Nat.reduceSub, Nat.reduceMul, Nat.reduceEqDiff, hse])
  have hs0 : w5.heap.size + 1 ≤ W0.heap.size := by
    rw [hW0]
    simp only [szR]
    omega
  clear hW0
  have hMI : MI (stored (laidM twoE) 8216 8 (wd f n' : Nat)) (wd f n') n' f := by
    have hst := fun b hb => leN_set (m := laidM twoE) (a := 8216) (b := b) (v := wd f n') (by omega) hb (by omega)
    obtain ⟨z0, z1⟩ := laid_base [] (by simp)
    refine ⟨by rw [hst 0 (by omega)]; exact (laidW_eq _ (by omega)).trans z0, by rw [hst 4096 (by omega)]; exact (laidW_eq _ (by omega)).trans z1, by rw [hst 8216 (by omega)]; rfl, fun j hj => fl_wd _ _ _ hj, by rw [fr_wd, Nat.mod_eq_of_lt (by omega)]⟩
  refine loopT.intro (fun st w' => ∃ (i : Nat) (z : Int) (S : Nat → List Ln) (m : Nat → Int) (X : Nat) (xf : Nat → Bool) (g' : Nat → Int), i ≤ 2 ∧ st = [.int .i64 z] ∧ z = i ∧ At w' w3.heap.size S (uT 0 0 (f 11)) ∧ LI S n' xf ∧ Mem w' r q 8 m g' ∧ MI m X n' xf ∧ w'.heap[w5.heap.size]? = some (.cells (entC xf n').toArray 32 (0, 0)) ∧ w'.heap[w.heap.size + 1]? = some (.cells [.int .i64 k1, .int .i64 k2].toArray 42 (0, 0)) ∧ Ext [] w w' ∧ W0.heap.size ≤ w'.heap.size)
    (fun st _ => match st with
      | [.int _ z] => 2 - z.toNat
      | _ => 0) ⟨0, 0, noS, _, _, f, g3, by omega, rfl, rfl, hS5.ext hx50 (by simp), ⟨Two.no, fun _ _ => rfl, fun l hl => by simp [noS] at hl⟩, hm5.ext hx50 (by simp) (by simp), hMI, hd10, hx50.at hc4 (by simp), hxw5.trans hx50 (by simp), Nat.le_refl _⟩ ?_
  rintro st w' ⟨i, z, S, m, X, xf, g', hi, rfl, hz, hS, hL, hmem, hMI, hd10, hc4, hx, hsz⟩ _
  by_cases hi2 : i < 2
  · obtain ⟨kk, hkk⟩ : ∃ kk, [Value.int .i64 k1, .int .i64 k2][i]? = some (.int .i64 kk) := by
      rcases (by omega : i = 0 ∨ i = 1) with rfl | rfl
      · exact ⟨k1, rfl⟩
      · exact ⟨k2, rfl⟩
    obtain ⟨L2, hL2⟩ : ∃ L2, L2 = [Value.int .i64 k1, .int .i64 k2] := ⟨_, rfl⟩
    rw [← hL2] at hkk hc4
    have hlL2 : L2.length = 2 := by rw [hL2]; rfl
    subst hz
    simp (disch := first | assumption | omega | (simp only [szR, entC_len, entC_all, fdC_len, fdC_all, un_len, un_all0] <;> omega) | rfl | decide) only [gen0, gen1, gen2, rulesM, rulesU, litR, bolR, Nat.reduceAdd, Nat.reduceLeDiff, numR, memR, valR, heapR, updR, intR, decR, extR, slR, segR, thenR, pnR, Int.reduceToNat, Int.reduceAdd, Int.reduceSub, Int.reduceLT, Int.reduceLE, Nat.reduceSub, Nat.reduceMul, Nat.reduceEqDiff, hc4, hkk, Int.toNat_natCast, Nat.mul_one, Nat.zero_add]
    have hml := hmem.lt
    have hxx := hx.size
    refine mstep_spec hS hL hmem hMI (by omega) (by omega) (by omega) fun w6 S6 m6 g6 X6 ee p s hS6 hL6 hm6 hM6 hx6 => ?_
    simp only [plC]
    have hs6 := hx6.size
    have hd10 := hx6.at hd10 (by simp <;> omega)
    have hc4 := hx6.at hc4 (by simp <;> omega)
    have hxw6 : Ext [] w w6 := hx.trans hx6 (by simp <;> omega)
    simp (disch := first | assumption | omega | (simp only [szR, entC_len, entC_all, fdC_len, fdC_all, un_len, un_all0] <;> omega) | rfl | decide) only [gen0, gen1, gen2, rulesM, rulesU, litR, bolR, Nat.reduceAdd, Nat.reduceLeDiff, numR, memR, valR, heapR, updR, intR, decR, extR, slR, segR, thenR, pnR, Int.reduceToNat, Int.reduceAdd, Int.reduceSub, Int.reduceLT, Int.reduceLE, Nat.reduceSub, Nat.reduceMul, Nat.reduceEqDiff]
    refine Load_spec (a := 8216) (hm6.ext (S := []) (by (repeat first | assumption | exact Ext.refl | apply Ext.alloc | apply Ext.drew | (refine Ext.updN ?_ ?_; (focus first | omega | (simp only [szR] <;> omega))) | (refine Ext.updI ?_ ?_; (focus (simp; done))))) (by simp) (by simp)) (by omega) (by omega) (.inr (.inr (.inr rfl))) (by omega) fun w7 hx7 => ?_
    have h64 := le8_lt hm6.byte 8216
    rw [hM6.c] at h64 ⊢
    have hx67 : Ext [] w6 w7 := Ext.trans (S := []) (by (repeat first | assumption | exact Ext.refl | apply Ext.alloc | apply Ext.drew | (refine Ext.updN ?_ ?_; (focus first | omega | (simp only [szR] <;> omega))) | (refine Ext.updI ?_ ?_; (focus (simp; done))))) hx7 (by simp)
    simp (disch := first | assumption | omega | (simp only [szR, entC_len, entC_all, fdC_len, fdC_all, un_len, un_all0] <;> omega) | rfl | decide) only [gen0, gen1, gen2, rulesM, rulesU, litR, bolR, Nat.reduceAdd, Nat.reduceLeDiff, numR, memR, valR, heapR, updR, intR, decR, extR, slR, segR, thenR, pnR, Int.reduceToNat, Int.reduceAdd, Int.reduceSub, Int.reduceLT, Int.reduceLE, Nat.reduceSub, Nat.reduceMul, Nat.reduceEqDiff]
    refine Of_spec h64 fun w8 hx8 => ?_
    have hx68 := hx67.trans hx8 (by simp)
    have hs8 := hx68.size
    have hcy : entC (fl X6) (fr X6) = entC (nextF xf kk t ee) n' := by
      rw [hM6.n]
      exact entC_congr hM6.f
    rw [hcy]
    have hd10 := hx68.at hd10 (by simp)
    have hc4 := hx68.at hc4 (by simp)
    have hS8 := hS6.ext hx68 (by simp)
    have hm8 := hm6.ext hx68 (by simp) (by simp)
    have hxw8 := hxw6.trans hx68 (by simp)
    have hl10 := lt_of_at hd10
    have hlc4 := lt_of_at hc4
    have hl8U := lt_of_at hS8.choose_spec
    have hl8m := hm8.lt
    have hne : w5.heap.size ≠ w3.heap.size := by omega
    simp (disch := first | assumption | omega | (simp only [szR, entC_len, entC_all, fdC_len, fdC_all, un_len, un_all0] <;> omega) | rfl | decide) only [gen0, gen1, gen2, rulesM, rulesU, litR, bolR, Nat.reduceAdd, Nat.reduceLeDiff, numR, memR, valR, heapR, updR, intR, decR, extR, slR, segR, thenR, pnR, Int.reduceToNat, Int.reduceAdd, Int.reduceSub, Int.reduceLT, Int.reduceLE, Nat.reduceSub, Nat.reduceMul, Nat.reduceEqDiff, hse]
    refine joinL.intro fun J2 hJ2 => ?_
    have hrest : ∀ w9, At w9 w3.heap.size S6 (uT 0 0 (f 11)) → Mem w9 r q 8 m6 g6 → w9.heap[w5.heap.size]? = some (.cells (entC (nextF xf kk t ee) n').toArray 32 (0, 0)) → w9.heap[w8.heap.size]? = some (.cells (entC (nextF xf kk t ee) n').toArray 32 (0, 0)) → w9.heap[w.heap.size + 1]? = some (.cells L2.toArray 42 (0, 0)) → Ext [] w w9 → w8.heap.size ≤ w9.heap.size → J2 [] w9 := by
      intro w9 a1 a2 a3 a4 a5 a6 a7
      apply hJ2
      intro _
      simp (disch := first | assumption | omega | (simp only [szR, entC_len, entC_all, fdC_len, fdC_all, un_len, un_all0] <;> omega) | rfl | decide) only [gen0, gen1, gen2, rulesM, rulesU, litR, bolR, Nat.reduceAdd, Nat.reduceLeDiff, numR, memR, valR, heapR, updR, intR, decR, extR, slR, segR, thenR, pnR, Int.reduceToNat, Int.reduceAdd, Int.reduceSub, Int.reduceLT, Int.reduceLE, Nat.reduceSub, Nat.reduceMul, Nat.reduceEqDiff, a3, a4, entC_sub, neqE, eqE_self]
      exact ⟨⟨i + 1, (i : Int) + 1, S6, m6, X6, nextF xf kk t ee, g6, by omega, rfl, by omega, a1, hL6, a2, hM6, by first | rfl | exact a3, by rw [← hL2]; exact a5, a6, by omega⟩, by first | omega | (simp <;> omega)⟩
    clear hJ2 hK
    have hset : ∀ (f : Nat → Bool) (n k : Nat) (v : Bool), k < 12 → (entC f n).set k (.bool v) = entC (upd1 f k v) n := fun f n k v h => entC_set h
    have u7 : ∀ v : Bool, upd1 xf 6 v 7 = xf 7 := fun v => rfl
    have u10 : ∀ v v' : Bool, upd1 (upd1 xf 6 v) 7 v' 10 = xf 10 := fun v v' => rfl
    by_cases he : ee = 0
    · subst he
      have hnf : nextF xf kk t 0 = markA xf kk t := if_pos rfl
      rw [hnf] at hrest ⊢
      cases h7 : xf 7 <;> cases h10 : xf 10
      all_goals
        by_cases h2 : kk = 2
        · subst h2
          simp (disch := first | assumption | omega | (simp only [szR, entC_len, entC_all, fdC_len, fdC_all, un_len, un_all0] <;> omega) | rfl | decide) only [gen0, gen1, gen2, rulesM, rulesU, litR, bolR, Nat.reduceAdd, Nat.reduceLeDiff, numR, memR, valR, heapR, updR, intR, decR, extR, slR, segR, thenR, pnR, Int.reduceToNat, Int.reduceAdd, Int.reduceSub, Int.reduceLT, Int.reduceLE, Nat.reduceSub, Nat.reduceMul, Nat.reduceEqDiff, joinR, hd10, entC_at, hset, u7, u10, h7, h10]
          refine hrest _ (hS8.ext (U := [w5.heap.size]) (by (repeat first | assumption | exact Ext.refl | apply Ext.alloc | apply Ext.drew | (refine Ext.updN ?_ ?_; (focus first | omega | (simp only [szR] <;> omega))) | (refine Ext.updI ?_ ?_; (focus (simp; done))))) (by simp <;> omega)) (hm8.ext (S := [w5.heap.size]) (by (repeat first | assumption | exact Ext.refl | apply Ext.alloc | apply Ext.drew | (refine Ext.updN ?_ ?_; (focus first | omega | (simp only [szR] <;> omega))) | (refine Ext.updI ?_ ?_; (focus (simp; done))))) (by simp <;> omega) (by simp <;> omega)) ?_ (by first | with_reducible rfl | assumption | (simp (disch := first | assumption | omega | (simp only [szR, entC_len, entC_all, fdC_len, fdC_all, un_len, un_all0] <;> omega) | rfl | decide) only [gen0, gen1, gen2, rulesM, rulesU, litR, bolR, Nat.reduceAdd, Nat.reduceLeDiff, numR, memR, valR, heapR, updR, intR, decR, extR, slR, segR, thenR, pnR, Int.reduceToNat, Int.reduceAdd, Int.reduceSub, Int.reduceLT, Int.reduceLE, Nat.reduceSub, Nat.reduceMul, Nat.reduceEqDiff, hse] <;> rfl) | simp (disch := first | assumption | omega | (simp only [szR, entC_len, entC_all, fdC_len, fdC_all, un_len, un_all0] <;> omega) | rfl | decide) only [gen0, gen1, gen2, rulesM, rulesU, litR, bolR, Nat.reduceAdd, Nat.reduceLeDiff, numR, memR, valR, heapR, updR, intR, decR, extR, slR, segR, thenR, pnR, Int.reduceToNat, Int.reduceAdd, Int.reduceSub, Int.reduceLT, Int.reduceLE, Nat.reduceSub, Nat.reduceMul, Nat.reduceEqDiff, hse]) (by first | with_reducible rfl | assumption | (simp (disch := first | assumption | omega | (simp only [szR, entC_len, entC_all, fdC_len, fdC_all, un_len, un_all0] <;> omega) | rfl | decide) only [gen0, gen1, gen2, rulesM, rulesU, litR, bolR, Nat.reduceAdd, Nat.reduceLeDiff, numR, memR, valR, heapR, updR, intR, decR, extR, slR, segR, thenR, pnR, Int.reduceToNat, Int.reduceAdd, Int.reduceSub, Int.reduceLT, Int.reduceLE, Nat.reduceSub, Nat.reduceMul, Nat.reduceEqDiff, hc4] <;> rfl) | simp (disch := first | assumption | omega | (simp only [szR, entC_len, entC_all, fdC_len, fdC_all, un_len, un_all0] <;> omega) | rfl | decide) only [gen0, gen1, gen2, rulesM, rulesU, litR, bolR, Nat.reduceAdd, Nat.reduceLeDiff, numR, memR, valR, heapR, updR, intR, decR, extR, slR, segR, thenR, pnR, Int.reduceToNat, Int.reduceAdd, Int.reduceSub, Int.reduceLT, Int.reduceLE, Nat.reduceSub, Nat.reduceMul, Nat.reduceEqDiff, hc4]) (by (repeat first | assumption | exact Ext.refl | apply Ext.alloc | apply Ext.drew | (refine Ext.updN ?_ ?_; (focus first | omega | (simp only [szR] <;> omega))) | (refine Ext.updI ?_ ?_; (focus (simp; done))))) (by simp only [szR]; omega)
          rw [← mark_cells (f := xf) (k := 2) (t := t) (n := n') (b1 := true) (b2 := xf 10) (by simp) (by simp), h10]
          (first | with_reducible rfl | assumption | (simp (disch := first | assumption | omega | (simp only [szR, entC_len, entC_all, fdC_len, fdC_all, un_len, un_all0] <;> omega) | rfl | decide) only [gen0, gen1, gen2, rulesM, rulesU, litR, bolR, Nat.reduceAdd, Nat.reduceLeDiff, numR, memR, valR, heapR, updR, intR, decR, extR, slR, segR, thenR, pnR, Int.reduceToNat, Int.reduceAdd, Int.reduceSub, Int.reduceLT, Int.reduceLE, Nat.reduceSub, Nat.reduceMul, Nat.reduceEqDiff, hset, hd10] <;> rfl) | simp (disch := first | assumption | omega | (simp only [szR, entC_len, entC_all, fdC_len, fdC_all, un_len, un_all0] <;> omega) | rfl | decide) only [gen0, gen1, gen2, rulesM, rulesU, litR, bolR, Nat.reduceAdd, Nat.reduceLeDiff, numR, memR, valR, heapR, updR, intR, decR, extR, slR, segR, thenR, pnR, Int.reduceToNat, Int.reduceAdd, Int.reduceSub, Int.reduceLT, Int.reduceLE, Nat.reduceSub, Nat.reduceMul, Nat.reduceEqDiff, hset, hd10])
        by_cases h4 : kk = 4
        · subst h4
          simp (disch := first | assumption | omega | (simp only [szR, entC_len, entC_all, fdC_len, fdC_all, un_len, un_all0] <;> omega) | rfl | decide) only [gen0, gen1, gen2, rulesM, rulesU, litR, bolR, Nat.reduceAdd, Nat.reduceLeDiff, numR, memR, valR, heapR, updR, intR, decR, extR, slR, segR, thenR, pnR, Int.reduceToNat, Int.reduceAdd, Int.reduceSub, Int.reduceLT, Int.reduceLE, Nat.reduceSub, Nat.reduceMul, Nat.reduceEqDiff, joinR, hd10, entC_at, hset, u7, u10, h7, h10]
          refine hrest _ (hS8.ext (U := [w5.heap.size]) (by (repeat first | assumption | exact Ext.refl | apply Ext.alloc | apply Ext.drew | (refine Ext.updN ?_ ?_; (focus first | omega | (simp only [szR] <;> omega))) | (refine Ext.updI ?_ ?_; (focus (simp; done))))) (by simp <;> omega)) (hm8.ext (S := [w5.heap.size]) (by (repeat first | assumption | exact Ext.refl | apply Ext.alloc | apply Ext.drew | (refine Ext.updN ?_ ?_; (focus first | omega | (simp only [szR] <;> omega))) | (refine Ext.updI ?_ ?_; (focus (simp; done))))) (by simp <;> omega) (by simp <;> omega)) ?_ (by first | with_reducible rfl | assumption | (simp (disch := first | assumption | omega | (simp only [szR, entC_len, entC_all, fdC_len, fdC_all, un_len, un_all0] <;> omega) | rfl | decide) only [gen0, gen1, gen2, rulesM, rulesU, litR, bolR, Nat.reduceAdd, Nat.reduceLeDiff, numR, memR, valR, heapR, updR, intR, decR, extR, slR, segR, thenR, pnR, Int.reduceToNat, Int.reduceAdd, Int.reduceSub, Int.reduceLT, Int.reduceLE, Nat.reduceSub, Nat.reduceMul, Nat.reduceEqDiff, hse] <;> rfl) | simp (disch := first | assumption | omega | (simp only [szR, entC_len, entC_all, fdC_len, fdC_all, un_len, un_all0] <;> omega) | rfl | decide) only [gen0, gen1, gen2, rulesM, rulesU, litR, bolR, Nat.reduceAdd, Nat.reduceLeDiff, numR, memR, valR, heapR, updR, intR, decR, extR, slR, segR, thenR, pnR, Int.reduceToNat, Int.reduceAdd, Int.reduceSub, Int.reduceLT, Int.reduceLE, Nat.reduceSub, Nat.reduceMul, Nat.reduceEqDiff, hse]) (by first | with_reducible rfl | assumption | (simp (disch := first | assumption | omega | (simp only [szR, entC_len, entC_all, fdC_len, fdC_all, un_len, un_all0] <;> omega) | rfl | decide) only [gen0, gen1, gen2, rulesM, rulesU, litR, bolR, Nat.reduceAdd, Nat.reduceLeDiff, numR, memR, valR, heapR, updR, intR, decR, extR, slR, segR, thenR, pnR, Int.reduceToNat, Int.reduceAdd, Int.reduceSub, Int.reduceLT, Int.reduceLE, Nat.reduceSub, Nat.reduceMul, Nat.reduceEqDiff, hc4] <;> rfl) | simp (disch := first | assumption | omega | (simp only [szR, entC_len, entC_all, fdC_len, fdC_all, un_len, un_all0] <;> omega) | rfl | decide) only [gen0, gen1, gen2, rulesM, rulesU, litR, bolR, Nat.reduceAdd, Nat.reduceLeDiff, numR, memR, valR, heapR, updR, intR, decR, extR, slR, segR, thenR, pnR, Int.reduceToNat, Int.reduceAdd, Int.reduceSub, Int.reduceLT, Int.reduceLE, Nat.reduceSub, Nat.reduceMul, Nat.reduceEqDiff, hc4]) (by (repeat first | assumption | exact Ext.refl | apply Ext.alloc | apply Ext.drew | (refine Ext.updN ?_ ?_; (focus first | omega | (simp only [szR] <;> omega))) | (refine Ext.updI ?_ ?_; (focus (simp; done))))) (by simp only [szR]; omega)
          rw [← mark_cells (f := xf) (k := 4) (t := t) (n := n') (b1 := true) (b2 := xf 10 || t) (by simp) (by simp), h10]
          (first | with_reducible rfl | assumption | (simp (disch := first | assumption | omega | (simp only [szR, entC_len, entC_all, fdC_len, fdC_all, un_len, un_all0] <;> omega) | rfl | decide) only [gen0, gen1, gen2, rulesM, rulesU, litR, bolR, Nat.reduceAdd, Nat.reduceLeDiff, numR, memR, valR, heapR, updR, intR, decR, extR, slR, segR, thenR, pnR, Int.reduceToNat, Int.reduceAdd, Int.reduceSub, Int.reduceLT, Int.reduceLE, Nat.reduceSub, Nat.reduceMul, Nat.reduceEqDiff, hset, hd10] <;> rfl) | simp (disch := first | assumption | omega | (simp only [szR, entC_len, entC_all, fdC_len, fdC_all, un_len, un_all0] <;> omega) | rfl | decide) only [gen0, gen1, gen2, rulesM, rulesU, litR, bolR, Nat.reduceAdd, Nat.reduceLeDiff, numR, memR, valR, heapR, updR, intR, decR, extR, slR, segR, thenR, pnR, Int.reduceToNat, Int.reduceAdd, Int.reduceSub, Int.reduceLT, Int.reduceLE, Nat.reduceSub, Nat.reduceMul, Nat.reduceEqDiff, hset, hd10])
        simp (disch := first | assumption | omega | (simp only [szR, entC_len, entC_all, fdC_len, fdC_all, un_len, un_all0] <;> omega) | rfl | decide) only [gen0, gen1, gen2, rulesM, rulesU, litR, bolR, Nat.reduceAdd, Nat.reduceLeDiff, numR, memR, valR, heapR, updR, intR, decR, extR, slR, segR, thenR, pnR, Int.reduceToNat, Int.reduceAdd, Int.reduceSub, Int.reduceLT, Int.reduceLE, Nat.reduceSub, Nat.reduceMul, Nat.reduceEqDiff, joinR, hd10, entC_at, hset, u7, u10, h7, h10]
        refine hrest _ (hS8.ext (U := [w5.heap.size]) (by (repeat first | assumption | exact Ext.refl | apply Ext.alloc | apply Ext.drew | (refine Ext.updN ?_ ?_; (focus first | omega | (simp only [szR] <;> omega))) | (refine Ext.updI ?_ ?_; (focus (simp; done))))) (by simp <;> omega)) (hm8.ext (S := [w5.heap.size]) (by (repeat first | assumption | exact Ext.refl | apply Ext.alloc | apply Ext.drew | (refine Ext.updN ?_ ?_; (focus first | omega | (simp only [szR] <;> omega))) | (refine Ext.updI ?_ ?_; (focus (simp; done))))) (by simp <;> omega) (by simp <;> omega)) ?_ (by first | with_reducible rfl | assumption | (simp (disch := first | assumption | omega | (simp only [szR, entC_len, entC_all, fdC_len, fdC_all, un_len, un_all0] <;> omega) | rfl | decide) only [gen0, gen1, gen2, rulesM, rulesU, litR, bolR, Nat.reduceAdd, Nat.reduceLeDiff, numR, memR, valR, heapR, updR, intR, decR, extR, slR, segR, thenR, pnR, Int.reduceToNat, Int.reduceAdd, Int.reduceSub, Int.reduceLT, Int.reduceLE, Nat.reduceSub, Nat.reduceMul, Nat.reduceEqDiff, hse] <;> rfl) | simp (disch := first | assumption | omega | (simp only [szR, entC_len, entC_all, fdC_len, fdC_all, un_len, un_all0] <;> omega) | rfl | decide) only [gen0, gen1, gen2, rulesM, rulesU, litR, bolR, Nat.reduceAdd, Nat.reduceLeDiff, numR, memR, valR, heapR, updR, intR, decR, extR, slR, segR, thenR, pnR, Int.reduceToNat, Int.reduceAdd, Int.reduceSub, Int.reduceLT, Int.reduceLE, Nat.reduceSub, Nat.reduceMul, Nat.reduceEqDiff, hse]) (by first | with_reducible rfl | assumption | (simp (disch := first | assumption | omega | (simp only [szR, entC_len, entC_all, fdC_len, fdC_all, un_len, un_all0] <;> omega) | rfl | decide) only [gen0, gen1, gen2, rulesM, rulesU, litR, bolR, Nat.reduceAdd, Nat.reduceLeDiff, numR, memR, valR, heapR, updR, intR, decR, extR, slR, segR, thenR, pnR, Int.reduceToNat, Int.reduceAdd, Int.reduceSub, Int.reduceLT, Int.reduceLE, Nat.reduceSub, Nat.reduceMul, Nat.reduceEqDiff, hc4] <;> rfl) | simp (disch := first | assumption | omega | (simp only [szR, entC_len, entC_all, fdC_len, fdC_all, un_len, un_all0] <;> omega) | rfl | decide) only [gen0, gen1, gen2, rulesM, rulesU, litR, bolR, Nat.reduceAdd, Nat.reduceLeDiff, numR, memR, valR, heapR, updR, intR, decR, extR, slR, segR, thenR, pnR, Int.reduceToNat, Int.reduceAdd, Int.reduceSub, Int.reduceLT, Int.reduceLE, Nat.reduceSub, Nat.reduceMul, Nat.reduceEqDiff, hc4]) (by (repeat first | assumption | exact Ext.refl | apply Ext.alloc | apply Ext.drew | (refine Ext.updN ?_ ?_; (focus first | omega | (simp only [szR] <;> omega))) | (refine Ext.updI ?_ ?_; (focus (simp; done))))) (by simp only [szR]; omega)
        rw [← mark_cells (f := xf) (k := kk) (t := t) (n := n') (b1 := xf 7) (b2 := xf 10) (by simp [h2, h4]) (by simp [h4]), h7, h10]
        (first | with_reducible rfl | assumption | (simp (disch := first | assumption | omega | (simp only [szR, entC_len, entC_all, fdC_len, fdC_all, un_len, un_all0] <;> omega) | rfl | decide) only [gen0, gen1, gen2, rulesM, rulesU, litR, bolR, Nat.reduceAdd, Nat.reduceLeDiff, numR, memR, valR, heapR, updR, intR, decR, extR, slR, segR, thenR, pnR, Int.reduceToNat, Int.reduceAdd, Int.reduceSub, Int.reduceLT, Int.reduceLE, Nat.reduceSub, Nat.reduceMul, Nat.reduceEqDiff, hset, hd10] <;> rfl) | simp (disch := first | assumption | omega | (simp only [szR, entC_len, entC_all, fdC_len, fdC_all, un_len, un_all0] <;> omega) | rfl | decide) only [gen0, gen1, gen2, rulesM, rulesU, litR, bolR, Nat.reduceAdd, Nat.reduceLeDiff, numR, memR, valR, heapR, updR, intR, decR, extR, slR, segR, thenR, pnR, Int.reduceToNat, Int.reduceAdd, Int.reduceSub, Int.reduceLT, Int.reduceLE, Nat.reduceSub, Nat.reduceMul, Nat.reduceEqDiff, hset, hd10])
    · have hnf : nextF xf kk t ee = xf := if_neg he
      rw [hnf] at hrest ⊢
      simp (disch := first | assumption | omega | (simp only [szR, entC_len, entC_all, fdC_len, fdC_all, un_len, un_all0] <;> omega) | rfl | decide) only [gen0, gen1, gen2, rulesM, rulesU, litR, bolR, Nat.reduceAdd, Nat.reduceLeDiff, numR, memR, valR, heapR, updR, intR, decR, extR, slR, segR, thenR, pnR, Int.reduceToNat, Int.reduceAdd, Int.reduceSub, Int.reduceLT, Int.reduceLE, Nat.reduceSub, Nat.reduceMul, Nat.reduceEqDiff]
      exact hrest _ (hS8.ext (U := []) (by (repeat first | assumption | exact Ext.refl | apply Ext.alloc | apply Ext.drew | (refine Ext.updN ?_ ?_; (focus first | omega | (simp only [szR] <;> omega))) | (refine Ext.updI ?_ ?_; (focus (simp; done))))) (by simp)) (hm8.ext (S := []) (by (repeat first | assumption | exact Ext.refl | apply Ext.alloc | apply Ext.drew | (refine Ext.updN ?_ ?_; (focus first | omega | (simp only [szR] <;> omega))) | (refine Ext.updI ?_ ?_; (focus (simp; done))))) (by simp) (by simp)) (by first | with_reducible rfl | assumption | (simp (disch := first | assumption | omega | (simp only [szR, entC_len, entC_all, fdC_len, fdC_all, un_len, un_all0] <;> omega) | rfl | decide) only [gen0, gen1, gen2, rulesM, rulesU, litR, bolR, Nat.reduceAdd, Nat.reduceLeDiff, numR, memR, valR, heapR, updR, intR, decR, extR, slR, segR, thenR, pnR, Int.reduceToNat, Int.reduceAdd, Int.reduceSub, Int.reduceLT, Int.reduceLE, Nat.reduceSub, Nat.reduceMul, Nat.reduceEqDiff, hd10] <;> rfl) | simp (disch := first | assumption | omega | (simp only [szR, entC_len, entC_all, fdC_len, fdC_all, un_len, un_all0] <;> omega) | rfl | decide) only [gen0, gen1, gen2, rulesM, rulesU, litR, bolR, Nat.reduceAdd, Nat.reduceLeDiff, numR, memR, valR, heapR, updR, intR, decR, extR, slR, segR, thenR, pnR, Int.reduceToNat, Int.reduceAdd, Int.reduceSub, Int.reduceLT, Int.reduceLE, Nat.reduceSub, Nat.reduceMul, Nat.reduceEqDiff, hd10]) (by first | with_reducible rfl | assumption | (simp (disch := first | assumption | omega | (simp only [szR, entC_len, entC_all, fdC_len, fdC_all, un_len, un_all0] <;> omega) | rfl | decide) only [gen0, gen1, gen2, rulesM, rulesU, litR, bolR, Nat.reduceAdd, Nat.reduceLeDiff, numR, memR, valR, heapR, updR, intR, decR, extR, slR, segR, thenR, pnR, Int.reduceToNat, Int.reduceAdd, Int.reduceSub, Int.reduceLT, Int.reduceLE, Nat.reduceSub, Nat.reduceMul, Nat.reduceEqDiff, hse] <;> rfl) | simp (disch := first | assumption | omega | (simp only [szR, entC_len, entC_all, fdC_len, fdC_all, un_len, un_all0] <;> omega) | rfl | decide) only [gen0, gen1, gen2, rulesM, rulesU, litR, bolR, Nat.reduceAdd, Nat.reduceLeDiff, numR, memR, valR, heapR, updR, intR, decR, extR, slR, segR, thenR, pnR, Int.reduceToNat, Int.reduceAdd, Int.reduceSub, Int.reduceLT, Int.reduceLE, Nat.reduceSub, Nat.reduceMul, Nat.reduceEqDiff, hse]) (by first | with_reducible rfl | assumption | (simp (disch := first | assumption | omega | (simp only [szR, entC_len, entC_all, fdC_len, fdC_all, un_len, un_all0] <;> omega) | rfl | decide) only [gen0, gen1, gen2, rulesM, rulesU, litR, bolR, Nat.reduceAdd, Nat.reduceLeDiff, numR, memR, valR, heapR, updR, intR, decR, extR, slR, segR, thenR, pnR, Int.reduceToNat, Int.reduceAdd, Int.reduceSub, Int.reduceLT, Int.reduceLE, Nat.reduceSub, Nat.reduceMul, Nat.reduceEqDiff, hc4] <;> rfl) | simp (disch := first | assumption | omega | (simp only [szR, entC_len, entC_all, fdC_len, fdC_all, un_len, un_all0] <;> omega) | rfl | decide) only [gen0, gen1, gen2, rulesM, rulesU, litR, bolR, Nat.reduceAdd, Nat.reduceLeDiff, numR, memR, valR, heapR, updR, intR, decR, extR, slR, segR, thenR, pnR, Int.reduceToNat, Int.reduceAdd, Int.reduceSub, Int.reduceLT, Int.reduceLE, Nat.reduceSub, Nat.reduceMul, Nat.reduceEqDiff, hc4]) (by (repeat first | assumption | exact Ext.refl | apply Ext.alloc | apply Ext.drew | (refine Ext.updN ?_ ?_; (focus first | omega | (simp only [szR] <;> omega))) | (refine Ext.updI ?_ ?_; (focus (simp; done))))) (by simp only [szR]; omega)
  · obtain rfl : i = 2 := by omega
    obtain rfl : z = 2 := by omega
    simp (disch := first | assumption | omega | (simp only [szR, entC_len, entC_all, fdC_len, fdC_all, un_len, un_all0] <;> omega) | rfl | decide) only [gen0, gen1, gen2, rulesM, rulesU, litR, bolR, Nat.reduceAdd, Nat.reduceLeDiff, numR, memR, valR, heapR, updR, intR, decR, extR, slR, segR, thenR, pnR, Int.reduceToNat, Int.reduceAdd, Int.reduceSub, Int.reduceLT, Int.reduceLE, Nat.reduceSub, Nat.reduceMul, Nat.reduceEqDiff]
    exact one12_spec fun w6 hx6 => hK _ (hx.trans hx6 (by simp))
end Go.Proofs.Ytbigiabcgplkgaa
