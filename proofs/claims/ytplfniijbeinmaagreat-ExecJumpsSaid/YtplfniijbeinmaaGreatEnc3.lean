/- An instruction's word; conditions: those of each theorem. -/
import Derived.Test.YtplfniijbeinmaaGreatEnc2
namespace Go.Proofs.YtplfniijbeinmaaGreat
open Go.Fx
set_option maxRecDepth 100000
set_option linter.unusedSimpArgs false
set_option linter.unusedVariables false
def putR (t : Bool) (W a r : Nat) : Nat := if t then W + r % 2 ^ 5 * 2 ^ a else W
def wEn (W1 W2 W3 W4 k : Nat) : Nat := if k = 0 then W1 else if k = 1 then W2 else if k = 2 then W3 else W4
set_option maxHeartbeats 2000000 in
theorem enc_spec {w : World} {i : In} {bits z : Nat} {ps : List (Nat × Nat × Nat)} {t1 t2 t3 : Bool} {W0 W1 W2 W3 W4 : Nat} (ho : 1 ≤ i.op ∧ i.op ≤ 69) (hps : 0 < ps.length) (hp : ∀ p ∈ ps, pcOk p)
    (hL : ∀ (w : World) (K : Value → World → Prop), (∀ a c w', RowsAt w' (.slice a ps.length c) 3 (ps.map pcC) → Ext [] w w' → K (.agg (loC (.slice a ps.length c) bits true z).toArray) w') → callsK Tryz.prog 35 #[.int .u8 ((row (i.op - 1)).s : Nat)] w K)
    (hH : ∀ (w : World) (K : Value → World → Prop), K (.tuple #[.bool t1, .bool t2, .bool t3]) w → callsK Tryz.prog 38 #[.int .u8 ((row (i.op - 1)).s : Nat)] w K)
    (hb : 1 ≤ bits ∧ bits ≤ 64) (him : i.im < 2 ^ (bits - 1)) (hz : z = 0 ∨ z = 1) (hxz : bitI .and .u64 (i.im : Nat) (z : Nat) = 0) (him2 : i.im < 9223372036854775808)
    (h0 : fixW (row (i.op - 1)) = W0) (hc : ∀ k p, ps[k]? = some p → (ps.take k).foldl (layN i.im) W0 < 18446744073709551616 ∧ (ps.take k).foldl (layN i.im) W0 / 2 ^ p.2.2 % 2 ^ p.2.1 = 0)
    (h1 : ps.foldl (layN i.im) W0 = W1) (hrd : i.rd < 32) (hr1 : i.r1 < 32) (hr2 : i.r2 < 32)
    (hW1 : W1 / 2 ^ 7 % 2 ^ 5 = 0) (h2 : putR t1 W1 7 i.rd = W2) (hW2 : W2 / 2 ^ 15 % 2 ^ 5 = 0) (h3 : putR t2 W2 15 i.r1 = W3) (hW3 : W3 / 2 ^ 20 % 2 ^ 5 = 0 ∨ t3 = false) (h4 : putR t3 W3 20 i.r2 = W4) (hW4 : W4 < 4294967296)
    {K : Value → World → Prop} (hK : ∀ w', Ext [] w w' → K (.tuple #[.int .u32 (W4 : Nat), .bool true]) w') : callsK Tryz.prog 14 #[.agg (inC i).toArray] w K := by
  have hm1 : W1 ≤ W2 := by rw [← h2]; unfold putR; split <;> omega
  have hm2 : W2 ≤ W3 := by rw [← h3]; unfold putR; split <;> omega
  have hm3 : W3 ≤ W4 := by rw [← h4]; unfold putR; split <;> omega
  apply F14_ok
  unfold F14
  have i0 : (inC i)[0]? = some (.int .i64 (i.op : Nat)) := rfl
  have i1 : (inC i)[1]? = some (.int .i64 (i.rd : Nat)) := rfl
  have i2 : (inC i)[2]? = some (.int .i64 (i.r1 : Nat)) := rfl
  have i3 : (inC i)[3]? = some (.int .i64 (i.r2 : Nat)) := rfl
  have i4 : (inC i)[4]? = some (.int .i64 (i.im : Nat)) := rfl
  simp (disch := first | assumption | omega | (simp only [szR, rwC_len, rwC_all, inC_len, inC_all, pcC_len, pcC_all, loC_len, loC_all] <;> omega) | rfl | decide) only [gen0, gen1, gen2, rulesC, rulesX, rulesM, rulesJ, litR, bolR, Nat.reduceAdd, Nat.reduceLeDiff, numR, memR, valR, heapR, updR, intR, decR, extR, slR, segR, thenR, pnR, Int.reduceToNat, Int.reduceAdd, Int.reduceSub, Int.reduceLT, Int.reduceLE, Nat.reduceSub, Nat.reduceMul, Nat.reduceEqDiff, inC_sub, i0]
  have g1 : (w.alloc (.cells (inC i).toArray 49)).heap[w.heap.size]? = some (.cells (inC i).toArray 49 (0, 0)) := alloc_at rfl
  have hx0 : Ext [] w (w.alloc (.cells (inC i).toArray 49)) := Ext.alloc Ext.refl _ _
  refine iof_spec ho fun w1 hx1 => ?_
  obtain ⟨ok, gW, gM⟩ := row_good (k := i.op - 1) (by omega)
  generalize row (i.op - 1) = rw0 at *
  have r1 : (rwC rw0)[1]? = some (.int .u8 (rw0.s : Nat)) := rfl
  have rsb : sub (rwC rw0) 0 5 = rwC rw0 := rfl
  have g1a := hx1.at g1 (by simp)
  replace hx0 := hx0.trans hx1 (by simp)
  have lg1 := lt_of_at g1a
  simp (disch := first | assumption | omega | (simp only [szR, rwC_len, rwC_all, inC_len, inC_all, pcC_len, pcC_all, loC_len, loC_all] <;> omega) | rfl | decide) only [gen0, gen1, gen2, rulesC, rulesX, rulesM, rulesJ, litR, bolR, Nat.reduceAdd, Nat.reduceLeDiff, numR, memR, valR, heapR, updR, intR, decR, extR, slR, segR, thenR, pnR, Int.reduceToNat, Int.reduceAdd, Int.reduceSub, Int.reduceLT, Int.reduceLE, Nat.reduceSub, Nat.reduceMul, Nat.reduceEqDiff, rw_over, rw_put]
  refine joinL.intro fun J0 hJ0 => ?_
  have hx2 : Ext [] w1 (w1.alloc (.cells (rwC rw0).toArray 101)).drew := by (repeat first | assumption | exact Ext.refl | apply Ext.alloc | apply Ext.drew | (refine Ext.updN ?_ ?_; (focus first | omega | (simp only [szR] <;> omega))) | (refine Ext.updI ?_ ?_; (focus (simp; done))))
  have g4 : (w1.alloc (.cells (rwC rw0).toArray 101)).drew.heap[w1.heap.size]? = some (.cells (rwC rw0).toArray 101 (0, 0)) := alloc_at rfl
  have g1b := hx2.at g1a (by simp)
  replace hx0 := hx0.trans hx2 (by simp)
  have hend : ∀ w2, Ext [] (w1.alloc (.cells (rwC rw0).toArray 101)).drew w2 → J0 [.bool false] w2 := by
    intro w2 hx3
    apply hJ0
    intro _
    have k1 := hx3.at g1b (by simp)
    have k4 := hx3.at g4 (by simp)
    have hxa := hx0.trans hx3 (by simp)
    simp (disch := first | assumption | omega | (simp only [szR, rwC_len, rwC_all, inC_len, inC_all, pcC_len, pcC_all, loC_len, loC_all] <;> omega) | rfl | decide) only [gen0, gen1, gen2, rulesC, rulesX, rulesM, rulesJ, litR, bolR, Nat.reduceAdd, Nat.reduceLeDiff, numR, memR, valR, heapR, updR, intR, decR, extR, slR, segR, thenR, pnR, Int.reduceToNat, Int.reduceAdd, Int.reduceSub, Int.reduceLT, Int.reduceLE, Nat.reduceSub, Nat.reduceMul, Nat.reduceEqDiff, k4, rsb, List.getD_cons_zero]
    refine fixed_spec ok fun w3 hx4 => ?_
    have m1 := hx4.at k1 (by simp)
    have m4 := hx4.at k4 (by simp)
    have hxb := hxa.trans hx4 (by simp)
    rw [h0]
    simp (disch := first | assumption | omega | (simp only [szR, rwC_len, rwC_all, inC_len, inC_all, pcC_len, pcC_all, loC_len, loC_all] <;> omega) | rfl | decide) only [gen0, gen1, gen2, rulesC, rulesX, rulesM, rulesJ, litR, bolR, Nat.reduceAdd, Nat.reduceLeDiff, numR, memR, valR, heapR, updR, intR, decR, extR, slR, segR, thenR, pnR, Int.reduceToNat, Int.reduceAdd, Int.reduceSub, Int.reduceLT, Int.reduceLE, Nat.reduceSub, Nat.reduceMul, Nat.reduceEqDiff, m4, r1]
    refine hH _ _ ?_
    simp (disch := first | assumption | omega | (simp only [szR, rwC_len, rwC_all, inC_len, inC_all, pcC_len, pcC_all, loC_len, loC_all] <;> omega) | rfl | decide) only [gen0, gen1, gen2, rulesC, rulesX, rulesM, rulesJ, litR, bolR, Nat.reduceAdd, Nat.reduceLeDiff, numR, memR, valR, heapR, updR, intR, decR, extR, slR, segR, thenR, pnR, Int.reduceToNat, Int.reduceAdd, Int.reduceSub, Int.reduceLT, Int.reduceLE, Nat.reduceSub, Nat.reduceMul, Nat.reduceEqDiff]
    refine joinL.intro fun J2 hJ2 => ?_
    have lm1 := lt_of_at m1
    have lm4 := lt_of_at m4
    have hend2 : ∀ w4, Ext [] w3 w4 → J2 [.int .u64 (W1 : Nat)] w4 := by
      intro w4 hx5
      apply hJ2
      intro _
      have n1 := hx5.at m1 (by simp)
      have hxc := hxb.trans hx5 (by simp)
      have hb1 : ∀ (t : Bool) (a r : Int) w, (Instr.build 114 #[(0, .bool t), (1, .int .i64 a), (2, .int .i64 r)]).run Tryz.prog w = .ok (.agg [.bool t, .int .i64 a, .int .i64 r].toArray) w := fun t a r w => run_build w 114 _ _ (by kernel_rfl)
      have hb3 : ∀ (t t' t'' : Bool) (a r a' r' a'' r'' : Int) w, (Instr.build 115 #[(0, .agg [.bool t, .int .i64 a, .int .i64 r].toArray), (1, .agg [.bool t', .int .i64 a', .int .i64 r'].toArray), (2, .agg [.bool t'', .int .i64 a'', .int .i64 r''].toArray)]).run Tryz.prog w = .ok (.agg [.bool t, .int .i64 a, .int .i64 r, .bool t', .int .i64 a', .int .i64 r', .bool t'', .int .i64 a'', .int .i64 r''].toArray) w := fun t t' t'' a r a' r' a'' r'' w => run_build w 115 _ _ (by kernel_rfl)
      simp (disch := first | assumption | omega | (simp only [szR, rwC_len, rwC_all, inC_len, inC_all, pcC_len, pcC_all, loC_len, loC_all] <;> omega) | rfl | decide) only [gen0, gen1, gen2, rulesC, rulesX, rulesM, rulesJ, litR, bolR, Nat.reduceAdd, Nat.reduceLeDiff, numR, memR, valR, heapR, updR, intR, decR, extR, slR, segR, thenR, pnR, Int.reduceToNat, Int.reduceAdd, Int.reduceSub, Int.reduceLT, Int.reduceLE, Nat.reduceSub, Nat.reduceMul, Nat.reduceEqDiff, n1, i1, i2, i3, hb1, hb3, List.getD_cons_zero]
      refine loopT.intro (fun st w' => ∃ (k : Nat), k ≤ 3 ∧ st = [.int .u64 (wEn W1 W2 W3 W4 k : Nat), .int .i64 (k : Nat)] ∧ Ext [] w w')
        (fun st _ => match st with
          | [_, .int _ z] => 3 - z.toNat
          | _ => 0) ⟨0, by omega, rfl, hxc⟩ ?_
      rintro st w5 ⟨k, hk, rfl, hx5⟩ _
      match k, hk with
      | 0, hk => 
        have hix : ∀ w, (Instr.index 115 (.agg [.bool t1, .int .i64 7, .int .i64 (i.rd : Nat), .bool t2, .int .i64 15, .int .i64 (i.r1 : Nat), .bool t3, .int .i64 20, .int .i64 (i.r2 : Nat)].toArray) (.int .i64 0)).run Tryz.prog w = .ok (.agg [.bool t1, .int .i64 7, .int .i64 (i.rd : Nat)].toArray) w := fun w => by kernel_rfl
        have eW : wEn W1 W2 W3 W4 0 = W1 := rfl
        have eN : wEn W1 W2 W3 W4 (0 + 1) = W2 := rfl
        rw [eW]
        have ek : ((0 : Nat) : Int) = 0 := rfl
        rw [ek]
        simp (disch := first | assumption | omega | (simp only [szR, rwC_len, rwC_all, inC_len, inC_all, pcC_len, pcC_all, loC_len, loC_all] <;> omega) | rfl | decide) only [gen0, gen1, gen2, rulesC, rulesX, rulesM, rulesJ, litR, bolR, Nat.reduceAdd, Nat.reduceLeDiff, numR, memR, valR, heapR, updR, intR, decR, extR, slR, segR, thenR, pnR, Int.reduceToNat, Int.reduceAdd, Int.reduceSub, Int.reduceLT, Int.reduceLE, Nat.reduceSub, Nat.reduceMul, Nat.reduceEqDiff]
        refine joinL.intro fun J6 hJ6 => ?_
        have hxl : Ext [] w5 (w5.alloc (.cells [.bool t1, .int .i64 7, .int .i64 (i.rd : Nat)].toArray 114)) := Ext.alloc Ext.refl _ _
        have hgo : ∀ w6, Ext [] w5 w6 → J6 [.int .u64 (W2 : Nat)] w6 := by
          intro w6 hx6
          apply hJ6
          intro _
          simp (disch := first | assumption | omega | (simp only [szR, rwC_len, rwC_all, inC_len, inC_all, pcC_len, pcC_all, loC_len, loC_all] <;> omega) | rfl | decide) only [gen0, gen1, gen2, rulesC, rulesX, rulesM, rulesJ, litR, bolR, Nat.reduceAdd, Nat.reduceLeDiff, numR, memR, valR, heapR, updR, intR, decR, extR, slR, segR, thenR, pnR, Int.reduceToNat, Int.reduceAdd, Int.reduceSub, Int.reduceLT, Int.reduceLE, Nat.reduceSub, Nat.reduceMul, Nat.reduceEqDiff, List.getD_cons_zero, List.getD_cons_succ]
          exact ⟨⟨0 + 1, by omega, by rw [eN]; rfl, hx5.trans hx6 (by simp)⟩, by first | omega | (simp <;> omega)⟩
        cases ht : t1 with
        | false =>
          rw [ht] at hix
          have e : W2 = W1 := by rw [← h2, ht]; rfl
          rw [ht] at hxl
          rw [e] at hgo
          simp (disch := first | assumption | omega | (simp only [szR, rwC_len, rwC_all, inC_len, inC_all, pcC_len, pcC_all, loC_len, loC_all] <;> omega) | rfl | decide) only [gen0, gen1, gen2, rulesC, rulesX, rulesM, rulesJ, litR, bolR, Nat.reduceAdd, Nat.reduceLeDiff, numR, memR, valR, heapR, updR, intR, decR, extR, slR, segR, thenR, pnR, Int.reduceToNat, Int.reduceAdd, Int.reduceSub, Int.reduceLT, Int.reduceLE, Nat.reduceSub, Nat.reduceMul, Nat.reduceEqDiff, joinBR, hix, List.getD_cons_zero, List.getD_cons_succ, if_false]
          exact hgo _ (by first | exact hxl | (repeat first | assumption | exact Ext.refl | apply Ext.alloc | apply Ext.drew | (refine Ext.updN ?_ ?_; (focus first | omega | (simp only [szR] <;> omega))) | (refine Ext.updI ?_ ?_; (focus (simp; done)))))
        | true =>
          rw [ht] at hix hxl
          have e : W1 + i.rd % 2 ^ 5 * 2 ^ 7 = W2 := by rw [← h2, ht]; rfl
          simp (disch := first | assumption | omega | (simp only [szR, rwC_len, rwC_all, inC_len, inC_all, pcC_len, pcC_all, loC_len, loC_all] <;> omega) | rfl | decide) only [gen0, gen1, gen2, rulesC, rulesX, rulesM, rulesJ, litR, bolR, Nat.reduceAdd, Nat.reduceLeDiff, numR, memR, valR, heapR, updR, intR, decR, extR, slR, segR, thenR, pnR, Int.reduceToNat, Int.reduceAdd, Int.reduceSub, Int.reduceLT, Int.reduceLE, Nat.reduceSub, Nat.reduceMul, Nat.reduceEqDiff, joinBR, hix, List.getD_cons_zero, List.getD_cons_succ]
          refine fitsU_spec (x := i.rd) (by omega) ?_
          simp (disch := first | assumption | omega | (simp only [szR, rwC_len, rwC_all, inC_len, inC_all, pcC_len, pcC_all, loC_len, loC_all] <;> omega) | rfl | decide) only [gen0, gen1, gen2, rulesC, rulesX, rulesM, rulesJ, litR, bolR, Nat.reduceAdd, Nat.reduceLeDiff, numR, memR, valR, heapR, updR, intR, decR, extR, slR, segR, thenR, pnR, Int.reduceToNat, Int.reduceAdd, Int.reduceSub, Int.reduceLT, Int.reduceLE, Nat.reduceSub, Nat.reduceMul, Nat.reduceEqDiff, joinBR, Bool.not_true, if_true]
          refine fPutZ_spec (x := W1) (a := 7) (k := 5) (v := i.rd) (by decide) (by decide) (by decide) (by omega) (hW1) (by omega) fun w7 hx7 => ?_
          have e5 : ((5 : Int).toNat) = 5 := rfl
          have e7 : ((7 : Int).toNat) = 7 := rfl
          rw [e5, e7, e]
          exact hgo _ (hxl.trans hx7 (by simp))
      | 1, hk => 
        have hix : ∀ w, (Instr.index 115 (.agg [.bool t1, .int .i64 7, .int .i64 (i.rd : Nat), .bool t2, .int .i64 15, .int .i64 (i.r1 : Nat), .bool t3, .int .i64 20, .int .i64 (i.r2 : Nat)].toArray) (.int .i64 1)).run Tryz.prog w = .ok (.agg [.bool t2, .int .i64 15, .int .i64 (i.r1 : Nat)].toArray) w := fun w => by kernel_rfl
        have eW : wEn W1 W2 W3 W4 1 = W2 := rfl
        have eN : wEn W1 W2 W3 W4 (1 + 1) = W3 := rfl
        rw [eW]
        have ek : ((1 : Nat) : Int) = 1 := rfl
        rw [ek]
        simp (disch := first | assumption | omega | (simp only [szR, rwC_len, rwC_all, inC_len, inC_all, pcC_len, pcC_all, loC_len, loC_all] <;> omega) | rfl | decide) only [gen0, gen1, gen2, rulesC, rulesX, rulesM, rulesJ, litR, bolR, Nat.reduceAdd, Nat.reduceLeDiff, numR, memR, valR, heapR, updR, intR, decR, extR, slR, segR, thenR, pnR, Int.reduceToNat, Int.reduceAdd, Int.reduceSub, Int.reduceLT, Int.reduceLE, Nat.reduceSub, Nat.reduceMul, Nat.reduceEqDiff]
        refine joinL.intro fun J6 hJ6 => ?_
        have hxl : Ext [] w5 (w5.alloc (.cells [.bool t2, .int .i64 15, .int .i64 (i.r1 : Nat)].toArray 114)) := Ext.alloc Ext.refl _ _
        have hgo : ∀ w6, Ext [] w5 w6 → J6 [.int .u64 (W3 : Nat)] w6 := by
          intro w6 hx6
          apply hJ6
          intro _
          simp (disch := first | assumption | omega | (simp only [szR, rwC_len, rwC_all, inC_len, inC_all, pcC_len, pcC_all, loC_len, loC_all] <;> omega) | rfl | decide) only [gen0, gen1, gen2, rulesC, rulesX, rulesM, rulesJ, litR, bolR, Nat.reduceAdd, Nat.reduceLeDiff, numR, memR, valR, heapR, updR, intR, decR, extR, slR, segR, thenR, pnR, Int.reduceToNat, Int.reduceAdd, Int.reduceSub, Int.reduceLT, Int.reduceLE, Nat.reduceSub, Nat.reduceMul, Nat.reduceEqDiff, List.getD_cons_zero, List.getD_cons_succ]
          exact ⟨⟨1 + 1, by omega, by rw [eN]; rfl, hx5.trans hx6 (by simp)⟩, by first | omega | (simp <;> omega)⟩
        cases ht : t2 with
        | false =>
          rw [ht] at hix
          have e : W3 = W2 := by rw [← h3, ht]; rfl
          rw [ht] at hxl
          rw [e] at hgo
          simp (disch := first | assumption | omega | (simp only [szR, rwC_len, rwC_all, inC_len, inC_all, pcC_len, pcC_all, loC_len, loC_all] <;> omega) | rfl | decide) only [gen0, gen1, gen2, rulesC, rulesX, rulesM, rulesJ, litR, bolR, Nat.reduceAdd, Nat.reduceLeDiff, numR, memR, valR, heapR, updR, intR, decR, extR, slR, segR, thenR, pnR, Int.reduceToNat, Int.reduceAdd, Int.reduceSub, Int.reduceLT, Int.reduceLE, Nat.reduceSub, Nat.reduceMul, Nat.reduceEqDiff, joinBR, hix, List.getD_cons_zero, List.getD_cons_succ, if_false]
          exact hgo _ (by first | exact hxl | (repeat first | assumption | exact Ext.refl | apply Ext.alloc | apply Ext.drew | (refine Ext.updN ?_ ?_; (focus first | omega | (simp only [szR] <;> omega))) | (refine Ext.updI ?_ ?_; (focus (simp; done)))))
        | true =>
          rw [ht] at hix hxl
          have e : W2 + i.r1 % 2 ^ 5 * 2 ^ 15 = W3 := by rw [← h3, ht]; rfl
          simp (disch := first | assumption | omega | (simp only [szR, rwC_len, rwC_all, inC_len, inC_all, pcC_len, pcC_all, loC_len, loC_all] <;> omega) | rfl | decide) only [gen0, gen1, gen2, rulesC, rulesX, rulesM, rulesJ, litR, bolR, Nat.reduceAdd, Nat.reduceLeDiff, numR, memR, valR, heapR, updR, intR, decR, extR, slR, segR, thenR, pnR, Int.reduceToNat, Int.reduceAdd, Int.reduceSub, Int.reduceLT, Int.reduceLE, Nat.reduceSub, Nat.reduceMul, Nat.reduceEqDiff, joinBR, hix, List.getD_cons_zero, List.getD_cons_succ]
          refine fitsU_spec (x := i.r1) (by omega) ?_
          simp (disch := first | assumption | omega | (simp only [szR, rwC_len, rwC_all, inC_len, inC_all, pcC_len, pcC_all, loC_len, loC_all] <;> omega) | rfl | decide) only [gen0, gen1, gen2, rulesC, rulesX, rulesM, rulesJ, litR, bolR, Nat.reduceAdd, Nat.reduceLeDiff, numR, memR, valR, heapR, updR, intR, decR, extR, slR, segR, thenR, pnR, Int.reduceToNat, Int.reduceAdd, Int.reduceSub, Int.reduceLT, Int.reduceLE, Nat.reduceSub, Nat.reduceMul, Nat.reduceEqDiff, joinBR, Bool.not_true, if_true]
          refine fPutZ_spec (x := W2) (a := 15) (k := 5) (v := i.r1) (by decide) (by decide) (by decide) (by omega) (hW2) (by omega) fun w7 hx7 => ?_
          have e5 : ((5 : Int).toNat) = 5 := rfl
          have e7 : ((15 : Int).toNat) = 15 := rfl
          rw [e5, e7, e]
          exact hgo _ (hxl.trans hx7 (by simp))
      | 2, hk => 
        have hix : ∀ w, (Instr.index 115 (.agg [.bool t1, .int .i64 7, .int .i64 (i.rd : Nat), .bool t2, .int .i64 15, .int .i64 (i.r1 : Nat), .bool t3, .int .i64 20, .int .i64 (i.r2 : Nat)].toArray) (.int .i64 2)).run Tryz.prog w = .ok (.agg [.bool t3, .int .i64 20, .int .i64 (i.r2 : Nat)].toArray) w := fun w => by kernel_rfl
        have eW : wEn W1 W2 W3 W4 2 = W3 := rfl
        have eN : wEn W1 W2 W3 W4 (2 + 1) = W4 := rfl
        rw [eW]
        have ek : ((2 : Nat) : Int) = 2 := rfl
        rw [ek]
        simp (disch := first | assumption | omega | (simp only [szR, rwC_len, rwC_all, inC_len, inC_all, pcC_len, pcC_all, loC_len, loC_all] <;> omega) | rfl | decide) only [gen0, gen1, gen2, rulesC, rulesX, rulesM, rulesJ, litR, bolR, Nat.reduceAdd, Nat.reduceLeDiff, numR, memR, valR, heapR, updR, intR, decR, extR, slR, segR, thenR, pnR, Int.reduceToNat, Int.reduceAdd, Int.reduceSub, Int.reduceLT, Int.reduceLE, Nat.reduceSub, Nat.reduceMul, Nat.reduceEqDiff]
        refine joinL.intro fun J6 hJ6 => ?_
        have hxl : Ext [] w5 (w5.alloc (.cells [.bool t3, .int .i64 20, .int .i64 (i.r2 : Nat)].toArray 114)) := Ext.alloc Ext.refl _ _
        have hgo : ∀ w6, Ext [] w5 w6 → J6 [.int .u64 (W4 : Nat)] w6 := by
          intro w6 hx6
          apply hJ6
          intro _
          simp (disch := first | assumption | omega | (simp only [szR, rwC_len, rwC_all, inC_len, inC_all, pcC_len, pcC_all, loC_len, loC_all] <;> omega) | rfl | decide) only [gen0, gen1, gen2, rulesC, rulesX, rulesM, rulesJ, litR, bolR, Nat.reduceAdd, Nat.reduceLeDiff, numR, memR, valR, heapR, updR, intR, decR, extR, slR, segR, thenR, pnR, Int.reduceToNat, Int.reduceAdd, Int.reduceSub, Int.reduceLT, Int.reduceLE, Nat.reduceSub, Nat.reduceMul, Nat.reduceEqDiff, List.getD_cons_zero, List.getD_cons_succ]
          exact ⟨⟨2 + 1, by omega, by rw [eN]; rfl, hx5.trans hx6 (by simp)⟩, by first | omega | (simp <;> omega)⟩
        cases ht : t3 with
        | false =>
          rw [ht] at hix
          have e : W4 = W3 := by rw [← h4, ht]; rfl
          rw [ht] at hxl
          rw [e] at hgo
          simp (disch := first | assumption | omega | (simp only [szR, rwC_len, rwC_all, inC_len, inC_all, pcC_len, pcC_all, loC_len, loC_all] <;> omega) | rfl | decide) only [gen0, gen1, gen2, rulesC, rulesX, rulesM, rulesJ, litR, bolR, Nat.reduceAdd, Nat.reduceLeDiff, numR, memR, valR, heapR, updR, intR, decR, extR, slR, segR, thenR, pnR, Int.reduceToNat, Int.reduceAdd, Int.reduceSub, Int.reduceLT, Int.reduceLE, Nat.reduceSub, Nat.reduceMul, Nat.reduceEqDiff, joinBR, hix, List.getD_cons_zero, List.getD_cons_succ, if_false]
          exact hgo _ (by first | exact hxl | (repeat first | assumption | exact Ext.refl | apply Ext.alloc | apply Ext.drew | (refine Ext.updN ?_ ?_; (focus first | omega | (simp only [szR] <;> omega))) | (refine Ext.updI ?_ ?_; (focus (simp; done)))))
        | true =>
          rw [ht] at hix hxl
          have e : W3 + i.r2 % 2 ^ 5 * 2 ^ 20 = W4 := by rw [← h4, ht]; rfl
          simp (disch := first | assumption | omega | (simp only [szR, rwC_len, rwC_all, inC_len, inC_all, pcC_len, pcC_all, loC_len, loC_all] <;> omega) | rfl | decide) only [gen0, gen1, gen2, rulesC, rulesX, rulesM, rulesJ, litR, bolR, Nat.reduceAdd, Nat.reduceLeDiff, numR, memR, valR, heapR, updR, intR, decR, extR, slR, segR, thenR, pnR, Int.reduceToNat, Int.reduceAdd, Int.reduceSub, Int.reduceLT, Int.reduceLE, Nat.reduceSub, Nat.reduceMul, Nat.reduceEqDiff, joinBR, hix, List.getD_cons_zero, List.getD_cons_succ]
          refine fitsU_spec (x := i.r2) (by omega) ?_
          simp (disch := first | assumption | omega | (simp only [szR, rwC_len, rwC_all, inC_len, inC_all, pcC_len, pcC_all, loC_len, loC_all] <;> omega) | rfl | decide) only [gen0, gen1, gen2, rulesC, rulesX, rulesM, rulesJ, litR, bolR, Nat.reduceAdd, Nat.reduceLeDiff, numR, memR, valR, heapR, updR, intR, decR, extR, slR, segR, thenR, pnR, Int.reduceToNat, Int.reduceAdd, Int.reduceSub, Int.reduceLT, Int.reduceLE, Nat.reduceSub, Nat.reduceMul, Nat.reduceEqDiff, joinBR, Bool.not_true, if_true]
          refine fPutZ_spec (x := W3) (a := 20) (k := 5) (v := i.r2) (by decide) (by decide) (by decide) (by omega) (by rcases hW3 with h | h; exact h; rw [h] at ht; exact absurd ht (by decide)) (by omega) fun w7 hx7 => ?_
          have e5 : ((5 : Int).toNat) = 5 := rfl
          have e7 : ((20 : Int).toNat) = 20 := rfl
          rw [e5, e7, e]
          exact hgo _ (hxl.trans hx7 (by simp))
      | 3, hk =>
        have eW : wEn W1 W2 W3 W4 3 = W4 := rfl
        rw [eW]
        have ek : ((3 : Nat) : Int) = 3 := rfl
        rw [ek]
        simp (disch := first | assumption | omega | (simp only [szR, rwC_len, rwC_all, inC_len, inC_all, pcC_len, pcC_all, loC_len, loC_all] <;> omega) | rfl | decide) only [gen0, gen1, gen2, rulesC, rulesX, rulesM, rulesJ, litR, bolR, Nat.reduceAdd, Nat.reduceLeDiff, numR, memR, valR, heapR, updR, intR, decR, extR, slR, segR, thenR, pnR, Int.reduceToNat, Int.reduceAdd, Int.reduceSub, Int.reduceLT, Int.reduceLE, Nat.reduceSub, Nat.reduceMul, Nat.reduceEqDiff, List.getD_cons_zero, List.getD_cons_succ]
        exact hK _ hx5
      | k + 4, hk => exact absurd hk (by omega)
    simp (disch := first | assumption | omega | (simp only [szR, rwC_len, rwC_all, inC_len, inC_all, pcC_len, pcC_all, loC_len, loC_all] <;> omega) | rfl | decide) only [gen0, gen1, gen2, rulesC, rulesX, rulesM, rulesJ, litR, bolR, Nat.reduceAdd, Nat.reduceLeDiff, numR, memR, valR, heapR, updR, intR, decR, extR, slR, segR, thenR, pnR, Int.reduceToNat, Int.reduceAdd, Int.reduceSub, Int.reduceLT, Int.reduceLE, Nat.reduceSub, Nat.reduceMul, Nat.reduceEqDiff, gdPR, m1, m4, i4, r1]
    have hfl : ∀ (a : Option Addr) (c : Nat) (w4 : World) (K : Value → World → Prop), RowsAt w4 (.slice a ps.length c) 3 (ps.map pcC) → (∀ w5, Ext [] w4 w5 → K (.int .u64 (W1 : Nat)) w5) → callsK Tryz.prog 39 #[.agg (loC (.slice a ps.length c) bits true z).toArray, .int .u64 (W0 : Nat), .int .i64 (i.im : Nat)] w4 K := fun a c w4 K hv hK4 => by
      refine lay_spec hv hp him2 hc fun w5 hx => ?_
      rw [h1]
      exact hK4 w5 hx
    have hxd : Ext [] w3 w3.drew := by (repeat first | assumption | exact Ext.refl | apply Ext.alloc | apply Ext.drew | (refine Ext.updN ?_ ?_; (focus first | omega | (simp only [szR] <;> omega))) | (refine Ext.updI ?_ ?_; (focus (simp; done))))
    refine ⟨⟨?_, ?_⟩, ?_⟩
    · refine hL _ _ fun a c w4 hv hx5 => ?_
      have k1 := (hxd.trans hx5 (by simp)).at m1 (by simp)
      simp (disch := first | assumption | omega | (simp only [szR, rwC_len, rwC_all, inC_len, inC_all, pcC_len, pcC_all, loC_len, loC_all] <;> omega) | rfl | decide) only [gen0, gen1, gen2, rulesC, rulesX, rulesM, rulesJ, litR, bolR, Nat.reduceAdd, Nat.reduceLeDiff, numR, memR, valR, heapR, updR, intR, decR, extR, slR, segR, thenR, pnR, Int.reduceToNat, Int.reduceAdd, Int.reduceSub, Int.reduceLT, Int.reduceLE, Nat.reduceSub, Nat.reduceMul, Nat.reduceEqDiff, k1, i4]
      refine hfl _ _ _ _ hv fun w5 hx6 => ?_
      exact hend2 _ ((hxd.trans hx5 (by simp)).trans hx6 (by simp))
    · refine hL _ _ fun a c w4 hv hx5 => ?_
      simp (disch := first | assumption | omega | (simp only [szR, rwC_len, rwC_all, inC_len, inC_all, pcC_len, pcC_all, loC_len, loC_all] <;> omega) | rfl | decide) only [gen0, gen1, gen2, rulesC, rulesX, rulesM, rulesJ, litR, bolR, Nat.reduceAdd, Nat.reduceLeDiff, numR, memR, valR, heapR, updR, intR, decR, extR, slR, segR, thenR, pnR, Int.reduceToNat, Int.reduceAdd, Int.reduceSub, Int.reduceLT, Int.reduceLE, Nat.reduceSub, Nat.reduceMul, Nat.reduceEqDiff]
      refine hfl _ _ _ _ hv fun w5 hx6 => ?_
      exact hend2 _ ((hxd.trans hx5 (by simp)).trans hx6 (by simp))
    · refine hL _ _ fun a c w4 hv hx5 => ?_
      simp (disch := first | assumption | omega | (simp only [szR, rwC_len, rwC_all, inC_len, inC_all, pcC_len, pcC_all, loC_len, loC_all] <;> omega) | rfl | decide) only [gen0, gen1, gen2, rulesC, rulesX, rulesM, rulesJ, litR, bolR, Nat.reduceAdd, Nat.reduceLeDiff, numR, memR, valR, heapR, updR, intR, decR, extR, slR, segR, thenR, pnR, Int.reduceToNat, Int.reduceAdd, Int.reduceSub, Int.reduceLT, Int.reduceLE, Nat.reduceSub, Nat.reduceMul, Nat.reduceEqDiff]
      refine hfl _ _ _ _ hv fun w5 hx6 => ?_
      exact hend2 _ ((hxd.trans hx5 (by simp)).trans hx6 (by simp))
  simp (disch := first | assumption | omega | (simp only [szR, rwC_len, rwC_all, inC_len, inC_all, pcC_len, pcC_all, loC_len, loC_all] <;> omega) | rfl | decide) only [gen0, gen1, gen2, rulesC, rulesX, rulesM, rulesJ, litR, bolR, Nat.reduceAdd, Nat.reduceLeDiff, numR, memR, valR, heapR, updR, intR, decR, extR, slR, segR, thenR, pnR, Int.reduceToNat, Int.reduceAdd, Int.reduceSub, Int.reduceLT, Int.reduceLE, Nat.reduceSub, Nat.reduceMul, Nat.reduceEqDiff, gdPR, Bool.not_true, g1a, i4, r1]
  refine ⟨⟨?_, ?_⟩, ?_⟩
  · refine hL _ _ fun a c w3 hv hx3 => ?_
    have k1 := hx3.at g1b (by simp)
    simp (disch := first | assumption | omega | (simp only [szR, rwC_len, rwC_all, inC_len, inC_all, pcC_len, pcC_all, loC_len, loC_all] <;> omega) | rfl | decide) only [gen0, gen1, gen2, rulesC, rulesX, rulesM, rulesJ, litR, bolR, Nat.reduceAdd, Nat.reduceLeDiff, numR, memR, valR, heapR, updR, intR, decR, extR, slR, segR, thenR, pnR, Int.reduceToNat, Int.reduceAdd, Int.reduceSub, Int.reduceLT, Int.reduceLE, Nat.reduceSub, Nat.reduceMul, Nat.reduceEqDiff, k1, i4, gdPR]
    refine fits_spec (n := ps.length) hps hb him hz hxz fun w4 hx4 => ?_
    simp (disch := first | assumption | omega | (simp only [szR, rwC_len, rwC_all, inC_len, inC_all, pcC_len, pcC_all, loC_len, loC_all] <;> omega) | rfl | decide) only [gen0, gen1, gen2, rulesC, rulesX, rulesM, rulesJ, litR, bolR, Nat.reduceAdd, Nat.reduceLeDiff, numR, memR, valR, heapR, updR, intR, decR, extR, slR, segR, thenR, pnR, Int.reduceToNat, Int.reduceAdd, Int.reduceSub, Int.reduceLT, Int.reduceLE, Nat.reduceSub, Nat.reduceMul, Nat.reduceEqDiff, gdPR, Bool.not_true, pN_pickE, if_false]
    exact hend _ (hx3.trans hx4 (by simp))
  · refine hL _ _ fun a c w3 hv hx3 => ?_
    have k1 := hx3.at g1b (by simp)
    simp (disch := first | assumption | omega | (simp only [szR, rwC_len, rwC_all, inC_len, inC_all, pcC_len, pcC_all, loC_len, loC_all] <;> omega) | rfl | decide) only [gen0, gen1, gen2, rulesC, rulesX, rulesM, rulesJ, litR, bolR, Nat.reduceAdd, Nat.reduceLeDiff, numR, memR, valR, heapR, updR, intR, decR, extR, slR, segR, thenR, pnR, Int.reduceToNat, Int.reduceAdd, Int.reduceSub, Int.reduceLT, Int.reduceLE, Nat.reduceSub, Nat.reduceMul, Nat.reduceEqDiff, k1, i4, gdPR]
    refine fits_spec (n := ps.length) hps hb him hz hxz fun w4 hx4 => ?_
    simp (disch := first | assumption | omega | (simp only [szR, rwC_len, rwC_all, inC_len, inC_all, pcC_len, pcC_all, loC_len, loC_all] <;> omega) | rfl | decide) only [gen0, gen1, gen2, rulesC, rulesX, rulesM, rulesJ, litR, bolR, Nat.reduceAdd, Nat.reduceLeDiff, numR, memR, valR, heapR, updR, intR, decR, extR, slR, segR, thenR, pnR, Int.reduceToNat, Int.reduceAdd, Int.reduceSub, Int.reduceLT, Int.reduceLE, Nat.reduceSub, Nat.reduceMul, Nat.reduceEqDiff, gdPR, Bool.not_true, pN_pickE, if_false]
    exact hend _ (hx3.trans hx4 (by simp))
  · refine hL _ _ fun a c w3 hv hx3 => ?_
    have k1 := hx3.at g1b (by simp)
    simp (disch := first | assumption | omega | (simp only [szR, rwC_len, rwC_all, inC_len, inC_all, pcC_len, pcC_all, loC_len, loC_all] <;> omega) | rfl | decide) only [gen0, gen1, gen2, rulesC, rulesX, rulesM, rulesJ, litR, bolR, Nat.reduceAdd, Nat.reduceLeDiff, numR, memR, valR, heapR, updR, intR, decR, extR, slR, segR, thenR, pnR, Int.reduceToNat, Int.reduceAdd, Int.reduceSub, Int.reduceLT, Int.reduceLE, Nat.reduceSub, Nat.reduceMul, Nat.reduceEqDiff, k1, i4, gdPR]
    refine fits_spec (n := ps.length) hps hb him hz hxz fun w4 hx4 => ?_
    simp (disch := first | assumption | omega | (simp only [szR, rwC_len, rwC_all, inC_len, inC_all, pcC_len, pcC_all, loC_len, loC_all] <;> omega) | rfl | decide) only [gen0, gen1, gen2, rulesC, rulesX, rulesM, rulesJ, litR, bolR, Nat.reduceAdd, Nat.reduceLeDiff, numR, memR, valR, heapR, updR, intR, decR, extR, slR, segR, thenR, pnR, Int.reduceToNat, Int.reduceAdd, Int.reduceSub, Int.reduceLT, Int.reduceLE, Nat.reduceSub, Nat.reduceMul, Nat.reduceEqDiff, gdPR, Bool.not_true, pN_pickE, if_false]
    exact hend _ (hx3.trans hx4 (by simp))
end Go.Proofs.YtplfniijbeinmaaGreat
