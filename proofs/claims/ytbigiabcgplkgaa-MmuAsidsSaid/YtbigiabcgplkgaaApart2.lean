/- An entry that is laid anew: the walk; conditions: those of each theorem. -/
import Derived.Test.YtbigiabcgplkgaaApart
namespace Go.Proofs.Ytbigiabcgplkgaa
open Go.Fx
set_option maxRecDepth 100000
set_option linter.unusedSimpArgs false
set_option linter.unusedVariables false
theorem loopT_at {B : (List Value → World → Prop) → List Value → World → Prop} {s : List Value} {w : World} (h : ∀ W0, W0 = w → loopT B s W0) : loopT B s w := h w rfl
set_option maxHeartbeats 8000000 in
theorem apart_spec {w : World} {v : Value} {R : List LayE} {at0 : Int × Int} {e : EntE} (hv : RowsAt w v 15 (R.map layC)) (hR : ∀ p ∈ R, p.n < 18446744073709551616) (hn : e.n < 18446744073709551616) {K : Value → World → Prop} (hK : ∀ w', Ext [] w w' → K (.bool true) w') :
    callsK Try.prog 4 #[v, .agg (i2C at0).toArray, .agg (entE e).toArray] w K := by
  obtain ⟨x1, x2⟩ := at0
  obtain ⟨f, n⟩ := e
  have e1 : i2C (x1, x2) = [.int .i64 x1, .int .i64 x2] := rfl
  have e3 : entE ⟨f, n⟩ = entC f n := rfl
  rw [e1, e3]
  clear e1 e3
  simp only at hn
  have hmk : ∀ (x : Int) (m : Nat), 0 < m → ∃ i : Nat, x % (m : Int) = i ∧ i < m := fun x m hm => ⟨(x % (m : Int)).toNat, by have := Int.emod_nonneg x (show (m : Int) ≠ 0 by omega); omega, by have := Int.emod_lt_of_pos x (show (0 : Int) < m by omega); have := Int.emod_nonneg x (show (m : Int) ≠ 0 by omega); omega⟩
  have k9 : ∀ x : Int, bitI .and .i64 x 511 = x % 512 := fun x => and_mask (k := .i64) (n := 9) (by decide)
  obtain ⟨i, hi, hi2⟩ := hmk x1 512 (by omega)
  obtain ⟨k, hk, hk2⟩ := hmk x2 512 (by omega)
  have m1 : bitI .and .i64 x1 511 = (i : Int) := (k9 x1).trans hi
  have m2 : bitI .and .i64 x2 511 = (k : Int) := (k9 x2).trans hk
  clear hi hk hmk k9
  have hsf : ∀ f n a, splice [Value.bool false, .bool false, .bool false, .bool false, .bool false, .bool false, .bool false, .bool false, .bool false, .bool false, .bool false, .bool false, .int .u64 0, .int .u64 0] 0 (fdC f n a) = fdC f n a := fun f n a => splice_over (by rw [fdC_len]; rfl)
  have hse : ∀ f n, splice [Value.bool false, .bool false, .bool false, .bool false, .bool false, .bool false, .bool false, .bool false, .bool false, .bool false, .bool false, .bool false, .int .u64 0] 0 (entC f n) = entC f n := fun f n => splice_over (by rw [entC_len]; rfl)
  have hsr : ∀ L : List Value, L.length = 4 → splice [.int .i64 0, .slice none 0 0, .slice none 0 0, .slice none 0 0] 0 L = L := fun L h => splice_all (by rw [h]; rfl)
  have hsl : ∀ p, splice [Value.int .i64 0, .int .i64 0, .bool false, .bool false, .bool false, .bool false, .bool false, .bool false, .bool false, .bool false, .bool false, .bool false, .bool false, .bool false, .int .u64 0] 0 (layC p) = layC p := fun p => splice_over (by rw [layC_len]; rfl)
  have hlen : ∀ w, (Builtin.len_ #[22] 3 #[v]).run Try.prog w = .ok (.int .i64 R.length) w := fun w => by
    have := RowsAt.lenR (P := Try.prog) (ty := 3) Try.underlying22 hv w
    rw [List.length_map] at this
    exact this
  apply F4_ok
  unfold F4
  simp (disch := first | assumption | omega | (simp only [szR, entC_len, entC_all, fdC_len, fdC_all, layC_len, layC_all] <;> omega) | rfl | decide) only [gen0, gen1, gen2, rulesM, litR, bolR, Nat.reduceAdd, Nat.reduceLeDiff, numR, memR, valR, heapR, updR, intR, decR, extR, slR, segR, thenR, pnR, Int.reduceToNat, Int.reduceAdd, Int.reduceSub, Int.reduceLT, Int.reduceLE, Nat.reduceSub, Nat.reduceMul, Nat.reduceEqDiff, foldV1, foldV2, blLay, bs2]
  refine loopT_at fun W0 hW0 => ?_
  have hx0 : Ext [] w W0 := by
    rw [hW0]
    (repeat first | assumption | exact Ext.refl | apply Ext.alloc | apply Ext.drew | (refine Ext.updN ?_ ?_; (focus first | omega | (simp only [szR] <;> omega))) | (refine Ext.updI ?_ ?_; (focus (simp; done))))
  have hs0 : W0.heap.size = w.heap.size + 1 + 1 + 1 := by
    rw [hW0]
    simp only [szR]
  have hc40 : W0.heap[w.heap.size]? = some (.cells [.int .i64 x1, .int .i64 x2].toArray 42 (0, 0)) := by
    rw [hW0]
    (first | with_reducible rfl | assumption | (simp (disch := first | assumption | omega | (simp only [szR, entC_len, entC_all, fdC_len, fdC_all, layC_len, layC_all] <;> omega) | rfl | decide) only [gen0, gen1, gen2, rulesM, litR, bolR, Nat.reduceAdd, Nat.reduceLeDiff, numR, memR, valR, heapR, updR, intR, decR, extR, slR, segR, thenR, pnR, Int.reduceToNat, Int.reduceAdd, Int.reduceSub, Int.reduceLT, Int.reduceLE, Nat.reduceSub, Nat.reduceMul, Nat.reduceEqDiff] <;> rfl) | simp (disch := first | assumption | omega | (simp only [szR, entC_len, entC_all, fdC_len, fdC_all, layC_len, layC_all] <;> omega) | rfl | decide) only [gen0, gen1, gen2, rulesM, litR, bolR, Nat.reduceAdd, Nat.reduceLeDiff, numR, memR, valR, heapR, updR, intR, decR, extR, slR, segR, thenR, pnR, Int.reduceToNat, Int.reduceAdd, Int.reduceSub, Int.reduceLT, Int.reduceLE, Nat.reduceSub, Nat.reduceMul, Nat.reduceEqDiff])
  have hc50 : W0.heap[w.heap.size + 1]? = some (.cells (entC f n).toArray 32 (0, 0)) := by
    rw [hW0]
    (first | with_reducible rfl | assumption | (simp (disch := first | assumption | omega | (simp only [szR, entC_len, entC_all, fdC_len, fdC_all, layC_len, layC_all] <;> omega) | rfl | decide) only [gen0, gen1, gen2, rulesM, litR, bolR, Nat.reduceAdd, Nat.reduceLeDiff, numR, memR, valR, heapR, updR, intR, decR, extR, slR, segR, thenR, pnR, Int.reduceToNat, Int.reduceAdd, Int.reduceSub, Int.reduceLT, Int.reduceLE, Nat.reduceSub, Nat.reduceMul, Nat.reduceEqDiff] <;> rfl) | simp (disch := first | assumption | omega | (simp only [szR, entC_len, entC_all, fdC_len, fdC_all, layC_len, layC_all] <;> omega) | rfl | decide) only [gen0, gen1, gen2, rulesM, litR, bolR, Nat.reduceAdd, Nat.reduceLeDiff, numR, memR, valR, heapR, updR, intR, decR, extR, slR, segR, thenR, pnR, Int.reduceToNat, Int.reduceAdd, Int.reduceSub, Int.reduceLT, Int.reduceLE, Nat.reduceSub, Nat.reduceMul, Nat.reduceEqDiff])
  have hcb0 : W0.heap[w.heap.size + 1 + 1]? = some (.cells ([E1, E2].flatMap layC).toArray 44 (0, 0)) := by
    rw [hW0]
    (first | with_reducible rfl | assumption | (simp (disch := first | assumption | omega | (simp only [szR, entC_len, entC_all, fdC_len, fdC_all, layC_len, layC_all] <;> omega) | rfl | decide) only [gen0, gen1, gen2, rulesM, litR, bolR, Nat.reduceAdd, Nat.reduceLeDiff, numR, memR, valR, heapR, updR, intR, decR, extR, slR, segR, thenR, pnR, Int.reduceToNat, Int.reduceAdd, Int.reduceSub, Int.reduceLT, Int.reduceLE, Nat.reduceSub, Nat.reduceMul, Nat.reduceEqDiff] <;> rfl) | simp (disch := first | assumption | omega | (simp only [szR, entC_len, entC_all, fdC_len, fdC_all, layC_len, layC_all] <;> omega) | rfl | decide) only [gen0, gen1, gen2, rulesM, litR, bolR, Nat.reduceAdd, Nat.reduceLeDiff, numR, memR, valR, heapR, updR, intR, decR, extR, slR, segR, thenR, pnR, Int.reduceToNat, Int.reduceAdd, Int.reduceSub, Int.reduceLT, Int.reduceLE, Nat.reduceSub, Nat.reduceMul, Nat.reduceEqDiff])
  clear hW0
  refine loopT.intro (fun st w' => ∃ (j : Nat) (vv : Value), j ≤ R.length ∧ j ≤ 40 ∧ st = [vv, .int .i64 j] ∧ OwnR w' W0.heap.size 44 15 vv (((R.take j).map set2).map layC) ∧ Ext [] W0 w')
    (fun st _ => match st with
      | [_, .int _ z] => 40 - z.toNat
      | _ => 0) ⟨0, _, by omega, by omega, rfl, OwnR.nil, Ext.refl⟩ ?_
  rintro st w' ⟨j, vv, hj, hj40, rfl, hown, hx⟩ _
  have hsz := hx.size
  have hxw := hx0.trans hx (by simp)
  by_cases hjl : j < R.length ∧ j < 40
  · obtain ⟨hjR, hj4⟩ := hjl
    obtain ⟨b, o, l, E, ff, hix, hb, hfit, hblt, hblk, hsub, hget⟩ := RowsAt.ixR Try.underlying22 Try.sizeOf44 hv (k := j) (r := layC R[j]) (by simp [hjR])
    have hb1 := hxw.at hb (by simp)
    have g15 := hsub o rfl
    simp (disch := first | assumption | omega | (simp only [szR, entC_len, entC_all, fdC_len, fdC_all, layC_len, layC_all] <;> omega) | rfl | decide) only [gen0, gen1, gen2, rulesM, litR, bolR, Nat.reduceAdd, Nat.reduceLeDiff, numR, memR, valR, heapR, updR, intR, decR, extR, slR, segR, thenR, pnR, Int.reduceToNat, Int.reduceAdd, Int.reduceSub, Int.reduceLT, Int.reduceLE, Nat.reduceSub, Nat.reduceMul, Nat.reduceEqDiff, joinBR, hlen, hix, hb1, g15, hsl, layC_set, layC_sub]
    have htk : (R.take (j + 1)).map set2 = (R.take j).map set2 ++ [set2 R[j]] := by rw [List.take_succ_eq_append_getElem hjR, List.map_append]; rfl
    have hbt : W0.heap.size ≤ w'.heap.size := hx.size
    refine app22 (rows2 := [layC (set2 R[j])]) (base := W0.heap.size) (hown.ext (S := []) (by (repeat first | assumption | exact Ext.refl | apply Ext.alloc | apply Ext.drew | (refine Ext.updN ?_ ?_; (focus first | omega | (simp only [szR] <;> omega))) | (refine Ext.updI ?_ ?_; (focus (simp; done))))) (by simp)) (RowsAt.one (l := layC (set2 R[j])) (by first | with_reducible rfl | assumption | (simp (disch := first | assumption | omega | (simp only [szR, entC_len, entC_all, fdC_len, fdC_all, layC_len, layC_all] <;> omega) | rfl | decide) only [gen0, gen1, gen2, rulesM, litR, bolR, Nat.reduceAdd, Nat.reduceLeDiff, numR, memR, valR, heapR, updR, intR, decR, extR, slR, segR, thenR, pnR, Int.reduceToNat, Int.reduceAdd, Int.reduceSub, Int.reduceLT, Int.reduceLE, Nat.reduceSub, Nat.reduceMul, Nat.reduceEqDiff] <;> rfl) | simp (disch := first | assumption | omega | (simp only [szR, entC_len, entC_all, fdC_len, fdC_all, layC_len, layC_all] <;> omega) | rfl | decide) only [gen0, gen1, gen2, rulesM, litR, bolR, Nat.reduceAdd, Nat.reduceLeDiff, numR, memR, valR, heapR, updR, intR, decR, extR, slR, segR, thenR, pnR, Int.reduceToNat, Int.reduceAdd, Int.reduceSub, Int.reduceLT, Int.reduceLE, Nat.reduceSub, Nat.reduceMul, Nat.reduceEqDiff]) (layC_len _)) (fun r hr => by rw [List.mem_singleton.1 hr]; exact layC_all _) (by simp; omega) (by simp only [szR]; omega) fun v2 w2 ho2 hp2 => ?_
    have hx2 := hp2.ext W0 [] (Nat.le_refl _) (by (repeat first | assumption | exact Ext.refl | apply Ext.alloc | apply Ext.drew | (refine Ext.updN ?_ ?_; (focus first | omega | (simp only [szR] <;> omega))) | (refine Ext.updI ?_ ?_; (focus (simp; done)))))
    simp (disch := first | assumption | omega | (simp only [szR, entC_len, entC_all, fdC_len, fdC_all, layC_len, layC_all] <;> omega) | rfl | decide) only [gen0, gen1, gen2, rulesM, litR, bolR, Nat.reduceAdd, Nat.reduceLeDiff, numR, memR, valR, heapR, updR, intR, decR, extR, slR, segR, thenR, pnR, Int.reduceToNat, Int.reduceAdd, Int.reduceSub, Int.reduceLT, Int.reduceLE, Nat.reduceSub, Nat.reduceMul, Nat.reduceEqDiff]
    refine ⟨⟨j + 1, v2, by omega, by omega, by first | rfl | simp, ?_, hx2⟩, by first | omega | (simp <;> omega)⟩
    rw [htk, List.map_append]
    exact ho2
  · have hR2 : ∃ R2 : List LayE, R2 = (R.take j).map set2 ∧ R2.length ≤ 40 ∧ (∀ p ∈ R2, p.n < 18446744073709551616) ∧ (∀ p ∈ R2, 8192 ≤ atOf p) := by
      refine ⟨_, rfl, by simp; omega, fun p hp => ?_, fun p hp => ?_⟩
      · obtain ⟨q, hq, rfl⟩ := List.mem_map.1 hp
        exact hR q (List.mem_of_mem_take hq)
      · obtain ⟨q, hq, rfl⟩ := List.mem_map.1 hp
        unfold set2 atOf
        simp only
        omega
    obtain ⟨R2, hR2e, hR2l, hR2n, hR2a⟩ := hR2
    rw [← hR2e] at hown
    have hgo : ∀ K' : Value → World → Prop, (∀ v2 w2, RowsAt w2 v2 15 ((R2 ++ [E1, E2]).map layC) → Ext [] W0 w2 → K' v2 w2) → resV K' ((Builtin.append_ #[22, 22] 22 #[vv, .slice (some ⟨w.heap.size + 1 + 1, 0, none⟩) 2 2]).run Try.prog w') := by
      intro K' hK'
      refine app22 (rows2 := [E1, E2].map layC) (base := W0.heap.size) hown (laysAt (R := [E1, E2]) (hx.at hcb0 (by simp)) (by simp)) (fun r hr => ?_) (by simp; omega) hx.size fun v2 w2 ho2 hp2 => hK' v2 w2 ?_ (hp2.ext W0 [] (Nat.le_refl _) hx)
      · obtain ⟨q, -, rfl⟩ := List.mem_map.1 hr
        exact layC_all q
      · rw [List.map_append]
        exact ho2.rows
    have hRn : ∀ p ∈ R2 ++ [E1, E2], p.n < 18446744073709551616 := by
      intro p hp
      rcases List.mem_append.1 hp with h | h
      · exact hR2n p h
      · simp only [List.mem_cons, List.not_mem_nil, or_false] at h
        rcases h with rfl | rfl <;> decide
    have ht : (R2 ++ [E1, E2]).take 60 = R2 ++ [E1, E2] := List.take_of_length_le (by simp; omega)
    obtain ⟨hb0, hb1⟩ := laid_base R2 hR2a
    clear hown
    have hwl := wd_lt f n
    have e8 : (8192 : Int) + 8 * (i : Int) = ((8192 + i * 8 : Nat) : Int) := by omega
    have ek : (k : Int) * 4096 = ((k * 4096 : Nat) : Int) := by omega
    have ei : (i : Int) * 4096 = ((i * 4096 : Nat) : Int) := by omega
    have hM2 : ∀ va, walkA (fun a => leN (stored (laidM (R2 ++ [E1, E2])) (8192 + i * 8) 8 (wd f n : Nat)) a 8) 8 0 va = walkA (setW (laidW (R2 ++ [E1, E2])) (8192 + i * 8) (wd f n)) 8 0 va := fun va => walkA_congr (fun b hb => by
      rw [leN_set (by omega) hb (by omega)]
      unfold setW
      split
      · rfl
      · exact laidW_eq _ hb) 8 0 va
    have hs0' : setW (laidW (R2 ++ [E1, E2])) (8192 + i * 8) (wd f n) 0 = wd fV 1 := by unfold setW; rw [if_neg (by omega)]; exact hb0
    have hs1' : setW (laidW (R2 ++ [E1, E2])) (8192 + i * 8) (wd f n) 4096 = wd fV 2 := by unfold setW; rw [if_neg (by omega)]; exact hb1
    have hs2' : setW (laidW (R2 ++ [E1, E2])) (8192 + i * 8) (wd f n) (8192 + i * 8) = wd f n := by unfold setW; rw [if_pos rfl]
    have hs3' : i ≠ k → setW (laidW (R2 ++ [E1, E2])) (8192 + i * 8) (wd f n) (8192 + k * 8) = laidW (R2 ++ [E1, E2]) (8192 + k * 8) := fun h => by unfold setW; rw [if_neg (by omega)]
    have hcond : (j < R.length ∧ ¬ j < 40) ∨ ¬ j < R.length := by omega
    rcases hcond with ⟨hjR, hj4⟩ | hjR
    all_goals
      simp (disch := first | assumption | omega | (simp only [szR, entC_len, entC_all, fdC_len, fdC_all, layC_len, layC_all] <;> omega) | rfl | decide) only [gen0, gen1, gen2, rulesM, litR, bolR, Nat.reduceAdd, Nat.reduceLeDiff, numR, memR, valR, heapR, updR, intR, decR, extR, slR, segR, thenR, pnR, Int.reduceToNat, Int.reduceAdd, Int.reduceSub, Int.reduceLT, Int.reduceLE, Nat.reduceSub, Nat.reduceMul, Nat.reduceEqDiff, joinBR, hlen]
      refine hgo _ fun v2 w2 h1 h2 => ?_
      simp (disch := first | assumption | omega | (simp only [szR, entC_len, entC_all, fdC_len, fdC_all, layC_len, layC_all] <;> omega) | rfl | decide) only [gen0, gen1, gen2, rulesM, litR, bolR, Nat.reduceAdd, Nat.reduceLeDiff, numR, memR, valR, heapR, updR, intR, decR, extR, slR, segR, thenR, pnR, Int.reduceToNat, Int.reduceAdd, Int.reduceSub, Int.reduceLT, Int.reduceLE, Nat.reduceSub, Nat.reduceMul, Nat.reduceEqDiff]
      refine laid_spec h1 hRn fun w3 r q base c g L P va vb hm hr hc hrb hqb hwr hwq hbw hx3 => ?_
      rw [ht] at hm hr
      obtain ⟨hlenL, hallL, hsubL⟩ := hr.cells
      have h2s := h2.size
      have h2x := h2.trans hx3 (by simp)
      have hc4 := h2x.at hc40 (by simp)
      have hc5 := h2x.at hc50 (by simp)
      have hl3 := hm.lt
      have hs3 := h2x.size
      simp (disch := first | assumption | omega | (simp only [szR, entC_len, entC_all, fdC_len, fdC_all, layC_len, layC_all] <;> omega) | rfl | decide) only [gen0, gen1, gen2, rulesM, litR, bolR, Nat.reduceAdd, Nat.reduceLeDiff, numR, memR, valR, heapR, updR, intR, decR, extR, slR, segR, thenR, pnR, Int.reduceToNat, Int.reduceAdd, Int.reduceSub, Int.reduceLT, Int.reduceLE, Nat.reduceSub, Nat.reduceMul, Nat.reduceEqDiff, hlenL, hallL, hsr, hc4, m1, m2, ek]
      refine walk_spec (root := 0) (va := k * 4096) (hm.ext (S := []) (by (repeat first | assumption | exact Ext.refl | apply Ext.alloc | apply Ext.drew | (refine Ext.updN ?_ ?_; (focus first | omega | (simp only [szR] <;> omega))) | (refine Ext.updI ?_ ?_; (focus (simp; done))))) (by simp) (by simp)) (by omega) (by omega) (by omega) fun w4 hx4 => ?_
      rw [walkA_laid, walkM hb0 hb1 hk2]
      have hx34 : Ext [] w3 w4 := Ext.trans (S := []) (by (repeat first | assumption | exact Ext.refl | apply Ext.alloc | apply Ext.drew | (refine Ext.updN ?_ ?_; (focus first | omega | (simp only [szR] <;> omega))) | (refine Ext.updI ?_ ?_; (focus (simp; done))))) hx4 (by simp)
      have hs4 := hx34.size
      have hc5 := hx34.at hc5 (by simp)
      obtain ⟨g1, n1, a1, er1, hr1, -, -⟩ := wkR_form (if bad (laidW (R2 ++ [E1, E2]) (8192 + k * 8)) 0 8 = true then none else some (laidW (R2 ++ [E1, E2]) (8192 + k * 8), 8192 + k * 8))
      rw [hr1]
      simp (disch := first | assumption | omega | (simp only [szR, entC_len, entC_all, fdC_len, fdC_all, layC_len, layC_all] <;> omega) | rfl | decide) only [gen0, gen1, gen2, rulesM, litR, bolR, Nat.reduceAdd, Nat.reduceLeDiff, numR, memR, valR, heapR, updR, intR, decR, extR, slR, segR, thenR, pnR, Int.reduceToNat, Int.reduceAdd, Int.reduceSub, Int.reduceLT, Int.reduceLE, Nat.reduceSub, Nat.reduceMul, Nat.reduceEqDiff, hsf, hc5, entC_sub, e8]
      refine Word_spec hn fun w5 hx5 => ?_
      have hx45 : Ext [] w4 w5 := Ext.trans (S := []) (by (repeat first | assumption | exact Ext.refl | apply Ext.alloc | apply Ext.drew | (refine Ext.updN ?_ ?_; (focus first | omega | (simp only [szR] <;> omega))) | (refine Ext.updI ?_ ?_; (focus (simp; done))))) hx5 (by simp)
      have hs5 := hx5.size
      simp only [szR] at hs5
      have hk5 := kept0 hx5
      have hc15 : w5.heap[w4.heap.size]? = some (.cells (fdC g1 n1 a1).toArray 34 (0, 0)) := (by first | with_reducible rfl | assumption | (simp (disch := first | assumption | omega | (simp only [szR, entC_len, entC_all, fdC_len, fdC_all, layC_len, layC_all] <;> omega) | rfl | decide) only [gen0, gen1, gen2, rulesM, litR, bolR, Nat.reduceAdd, Nat.reduceLeDiff, numR, memR, valR, heapR, updR, intR, decR, extR, slR, segR, thenR, pnR, Int.reduceToNat, Int.reduceAdd, Int.reduceSub, Int.reduceLT, Int.reduceLE, Nat.reduceSub, Nat.reduceMul, Nat.reduceEqDiff, hk5, hsf] <;> rfl) | simp (disch := first | assumption | omega | (simp only [szR, entC_len, entC_all, fdC_len, fdC_all, layC_len, layC_all] <;> omega) | rfl | decide) only [gen0, gen1, gen2, rulesM, litR, bolR, Nat.reduceAdd, Nat.reduceLeDiff, numR, memR, valR, heapR, updR, intR, decR, extR, slR, segR, thenR, pnR, Int.reduceToNat, Int.reduceAdd, Int.reduceSub, Int.reduceLT, Int.reduceLE, Nat.reduceSub, Nat.reduceMul, Nat.reduceEqDiff, hk5, hsf])
      have hc5 := hx45.at hc5 (by simp)
      simp (disch := first | assumption | omega | (simp only [szR, entC_len, entC_all, fdC_len, fdC_all, layC_len, layC_all] <;> omega) | rfl | decide) only [gen0, gen1, gen2, rulesM, litR, bolR, Nat.reduceAdd, Nat.reduceLeDiff, numR, memR, valR, heapR, updR, intR, decR, extR, slR, segR, thenR, pnR, Int.reduceToNat, Int.reduceAdd, Int.reduceSub, Int.reduceLT, Int.reduceLE, Nat.reduceSub, Nat.reduceMul, Nat.reduceEqDiff]
      refine Store_spec (a := 8192 + i * 8) (v := (wd f n : Nat)) ((hm.ext hx34 (by simp) (by simp)).ext hx45 (by simp) (by simp)) (by omega) (by omega) (.inr (.inr (.inr rfl))) (by omega) ⟨by omega, by omega⟩ fun g6 w6 hm6 _ hx6 => ?_
      have hs6 := hx6.size
      have hc15 := hx6.at hc15 (by simp <;> omega)
      have hc5 := hx6.at hc5 (by simp <;> omega)
      have hxw6 : Ext [] w w6 := ((((hx0.trans h2x (by simp)).trans hx34 (by simp)).trans hx45 (by simp))).trans hx6 (by simp <;> omega)
      simp (disch := first | assumption | omega | (simp only [szR, entC_len, entC_all, fdC_len, fdC_all, layC_len, layC_all] <;> omega) | rfl | decide) only [gen0, gen1, gen2, rulesM, litR, bolR, Nat.reduceAdd, Nat.reduceLeDiff, numR, memR, valR, heapR, updR, intR, decR, extR, slR, segR, thenR, pnR, Int.reduceToNat, Int.reduceAdd, Int.reduceSub, Int.reduceLT, Int.reduceLE, Nat.reduceSub, Nat.reduceMul, Nat.reduceEqDiff, ek]
      refine walk_spec (root := 0) (va := k * 4096) hm6 (by omega) (by omega) (by omega) fun w7 hx7 => ?_
      rw [hM2, walkM hs0' hs1' hk2]
      have hs7 := hx7.size
      have hk7 := kept0 hx7
      have hc15 := hx7.at hc15 (by simp)
      have hc5 := hx7.at hc5 (by simp)
      have hxw7 := hxw6.trans hx7 (by simp)
      obtain ⟨o2, ho2⟩ : ∃ o2, o2 = (if bad (setW (laidW (R2 ++ [E1, E2])) (8192 + i * 8) (wd f n) (8192 + k * 8)) 0 8 = true then none else some (setW (laidW (R2 ++ [E1, E2])) (8192 + i * 8) (wd f n) (8192 + k * 8), 8192 + k * 8)) := ⟨_, rfl⟩
      rw [← ho2]
      obtain ⟨g2, n2, a2, er2, hr2, hsame⟩ : ∃ g2 n2 a2 er2, wkR o2 = .tuple #[.agg (fdC g2 n2 a2).toArray, .int .i64 er2] ∧ (i ≠ k → g2 = g1 ∧ n2 = n1 ∧ a2 = a1 ∧ er2 = er1) := by
        by_cases hik : i = k
        · obtain ⟨g2, n2, a2, er2, hr2, -, -⟩ := wkR_form o2
          exact ⟨g2, n2, a2, er2, hr2, fun h => absurd hik h⟩
        · rw [hs3' hik] at ho2
          rw [← ho2] at hr1
          exact ⟨g1, n1, a1, er1, hr1, fun _ => ⟨rfl, rfl, rfl, rfl⟩⟩
      rw [hr2]
      simp (disch := first | assumption | omega | (simp only [szR, entC_len, entC_all, fdC_len, fdC_all, layC_len, layC_all] <;> omega) | rfl | decide) only [gen0, gen1, gen2, rulesM, litR, bolR, Nat.reduceAdd, Nat.reduceLeDiff, numR, memR, valR, heapR, updR, intR, decR, extR, slR, segR, thenR, pnR, Int.reduceToNat, Int.reduceAdd, Int.reduceSub, Int.reduceLT, Int.reduceLE, Nat.reduceSub, Nat.reduceMul, Nat.reduceEqDiff, hsf, ei]
      refine walk_spec (root := 0) (va := i * 4096) ((hm6.ext hx7 (by simp) (by simp)).ext (S := []) (by (repeat first | assumption | exact Ext.refl | apply Ext.alloc | apply Ext.drew | (refine Ext.updN ?_ ?_; (focus first | omega | (simp only [szR] <;> omega))) | (refine Ext.updI ?_ ?_; (focus (simp; done))))) (by simp) (by simp)) (by omega) (by omega) (by omega) fun w8 hx8 => ?_
      rw [hM2, walkM hs0' hs1' hi2, hs2', bad_gd]
      have hx78 : Ext [] w7 w8 := Ext.trans (S := []) (by (repeat first | assumption | exact Ext.refl | apply Ext.alloc | apply Ext.drew | (refine Ext.updN ?_ ?_; (focus first | omega | (simp only [szR] <;> omega))) | (refine Ext.updI ?_ ?_; (focus (simp; done))))) hx8 (by simp)
      have hs8 := hx8.size
      simp only [szR] at hs8
      have hk8 := kept0 hx8
      have hc17 : w8.heap[w7.heap.size]? = some (.cells (fdC g2 n2 a2).toArray 34 (0, 0)) := (by first | with_reducible rfl | assumption | (simp (disch := first | assumption | omega | (simp only [szR, entC_len, entC_all, fdC_len, fdC_all, layC_len, layC_all] <;> omega) | rfl | decide) only [gen0, gen1, gen2, rulesM, litR, bolR, Nat.reduceAdd, Nat.reduceLeDiff, numR, memR, valR, heapR, updR, intR, decR, extR, slR, segR, thenR, pnR, Int.reduceToNat, Int.reduceAdd, Int.reduceSub, Int.reduceLT, Int.reduceLE, Nat.reduceSub, Nat.reduceMul, Nat.reduceEqDiff, hk8, hsf] <;> rfl) | simp (disch := first | assumption | omega | (simp only [szR, entC_len, entC_all, fdC_len, fdC_all, layC_len, layC_all] <;> omega) | rfl | decide) only [gen0, gen1, gen2, rulesM, litR, bolR, Nat.reduceAdd, Nat.reduceLeDiff, numR, memR, valR, heapR, updR, intR, decR, extR, slR, segR, thenR, pnR, Int.reduceToNat, Int.reduceAdd, Int.reduceSub, Int.reduceLT, Int.reduceLE, Nat.reduceSub, Nat.reduceMul, Nat.reduceEqDiff, hk8, hsf])
      have hc15 := hx78.at hc15 (by simp)
      have hc5 := hx78.at hc5 (by simp)
      have hxw8 := hxw7.trans hx78 (by simp)
      obtain ⟨g3, n3, a3, er3, hr3, hn3, hsm3⟩ := wkR_form (if (!(leaf (fl (wd f n)) && right (fl (wd f n)) (fr (wd f n)) && decide (fr (wd f n) < 8))) = true then none else some (wd f n, 8192 + i * 8))
      rw [hr3]
      have hgo2 : ∀ K' : Value → World → Prop, (∀ w9, Ext [] w8 w9 → w9.heap[w8.heap.size]? = some (.cells (fdC g3 n3 a3).toArray 34 (0, 0)) → K' (.int .u64 (wd f n : Nat)) w9) → callsK Try.prog 16 #[.agg (entC f n).toArray] (w8.alloc (.cells (fdC g3 n3 a3).toArray 34)) K' := by
        intro K' hK'
        refine Word_spec hn fun w9 hx9 => ?_
        have hk9 := kept0 hx9
        exact hK' w9 (Ext.trans (S := []) (by (repeat first | assumption | exact Ext.refl | apply Ext.alloc | apply Ext.drew | (refine Ext.updN ?_ ?_; (focus first | omega | (simp only [szR] <;> omega))) | (refine Ext.updI ?_ ?_; (focus (simp; done))))) hx9 (by simp)) (by first | with_reducible rfl | assumption | (simp (disch := first | assumption | omega | (simp only [szR, entC_len, entC_all, fdC_len, fdC_all, layC_len, layC_all] <;> omega) | rfl | decide) only [gen0, gen1, gen2, rulesM, litR, bolR, Nat.reduceAdd, Nat.reduceLeDiff, numR, memR, valR, heapR, updR, intR, decR, extR, slR, segR, thenR, pnR, Int.reduceToNat, Int.reduceAdd, Int.reduceSub, Int.reduceLT, Int.reduceLE, Nat.reduceSub, Nat.reduceMul, Nat.reduceEqDiff, hk9] <;> rfl) | simp (disch := first | assumption | omega | (simp only [szR, entC_len, entC_all, fdC_len, fdC_all, layC_len, layC_all] <;> omega) | rfl | decide) only [gen0, gen1, gen2, rulesM, litR, bolR, Nat.reduceAdd, Nat.reduceLeDiff, numR, memR, valR, heapR, updR, intR, decR, extR, slR, segR, thenR, pnR, Int.reduceToNat, Int.reduceAdd, Int.reduceSub, Int.reduceLT, Int.reduceLE, Nat.reduceSub, Nat.reduceMul, Nat.reduceEqDiff, hk9])
      by_cases hik : i = k
      · have hd : decide ((i : Int) ≠ (k : Int)) = false := decide_eq_false (by omega)
        simp (disch := first | assumption | omega | (simp only [szR, entC_len, entC_all, fdC_len, fdC_all, layC_len, layC_all] <;> omega) | rfl | decide) only [gen0, gen1, gen2, rulesM, litR, bolR, Nat.reduceAdd, Nat.reduceLeDiff, numR, memR, valR, heapR, updR, intR, decR, extR, slR, segR, thenR, pnR, Int.reduceToNat, Int.reduceAdd, Int.reduceSub, Int.reduceLT, Int.reduceLE, Nat.reduceSub, Nat.reduceMul, Nat.reduceEqDiff, joinR, hsf, hd, hc5, entC_sub]
        refine hgo2 _ fun w9 hx9 hc19 => ?_
        simp (disch := first | assumption | omega | (simp only [szR, entC_len, entC_all, fdC_len, fdC_all, layC_len, layC_all] <;> omega) | rfl | decide) only [gen0, gen1, gen2, rulesM, litR, bolR, Nat.reduceAdd, Nat.reduceLeDiff, numR, memR, valR, heapR, updR, intR, decR, extR, slR, segR, thenR, pnR, Int.reduceToNat, Int.reduceAdd, Int.reduceSub, Int.reduceLT, Int.reduceLE, Nat.reduceSub, Nat.reduceMul, Nat.reduceEqDiff, joinR]
        refine Of_spec (by omega) fun w10 hx10 => ?_
        have hc19 := hx10.at hc19 (by simp)
        have hs10 := hx10.size
        have hl19 := lt_of_at hc19
        have hxw10 := (hxw8.trans hx9 (by simp)).trans hx10 (by simp)
        simp (disch := first | assumption | omega | (simp only [szR, entC_len, entC_all, fdC_len, fdC_all, layC_len, layC_all] <;> omega) | rfl | decide) only [gen0, gen1, gen2, rulesM, litR, bolR, Nat.reduceAdd, Nat.reduceLeDiff, numR, memR, valR, heapR, updR, intR, decR, extR, slR, segR, thenR, pnR, Int.reduceToNat, Int.reduceAdd, Int.reduceSub, Int.reduceLT, Int.reduceLE, Nat.reduceSub, Nat.reduceMul, Nat.reduceEqDiff, joinR, hse, entC_sub]
        refine Leaf_spec fun w11 hx11 => ?_
        have hk11 := kept0 hx11
        have hs11 := hx11.size
        simp only [szR] at hs11
        have hx1011 : Ext [] w10 w11 := Ext.trans (S := []) (by (repeat first | assumption | exact Ext.refl | apply Ext.alloc | apply Ext.drew | (refine Ext.updN ?_ ?_; (focus first | omega | (simp only [szR] <;> omega))) | (refine Ext.updI ?_ ?_; (focus (simp; done))))) hx11 (by simp)
        have hc19 := hx1011.at hc19 (by simp)
        have hc21 : w11.heap[w10.heap.size]? = some (.cells (entC (fl (wd f n)) (fr (wd f n))).toArray 32 (0, 0)) := (by first | with_reducible rfl | assumption | (simp (disch := first | assumption | omega | (simp only [szR, entC_len, entC_all, fdC_len, fdC_all, layC_len, layC_all] <;> omega) | rfl | decide) only [gen0, gen1, gen2, rulesM, litR, bolR, Nat.reduceAdd, Nat.reduceLeDiff, numR, memR, valR, heapR, updR, intR, decR, extR, slR, segR, thenR, pnR, Int.reduceToNat, Int.reduceAdd, Int.reduceSub, Int.reduceLT, Int.reduceLE, Nat.reduceSub, Nat.reduceMul, Nat.reduceEqDiff, hk11, hse] <;> rfl) | simp (disch := first | assumption | omega | (simp only [szR, entC_len, entC_all, fdC_len, fdC_all, layC_len, layC_all] <;> omega) | rfl | decide) only [gen0, gen1, gen2, rulesM, litR, bolR, Nat.reduceAdd, Nat.reduceLeDiff, numR, memR, valR, heapR, updR, intR, decR, extR, slR, segR, thenR, pnR, Int.reduceToNat, Int.reduceAdd, Int.reduceSub, Int.reduceLT, Int.reduceLE, Nat.reduceSub, Nat.reduceMul, Nat.reduceEqDiff, hk11, hse])
        have hxw11 := hxw10.trans hx1011 (by simp)
        cases hl : leaf (fl (wd f n))
        · have e3 := hn3 (by rw [hl]; rfl)
          subst e3
          simp (disch := first | assumption | omega | (simp only [szR, entC_len, entC_all, fdC_len, fdC_all, layC_len, layC_all] <;> omega) | rfl | decide) only [gen0, gen1, gen2, rulesM, litR, bolR, Nat.reduceAdd, Nat.reduceLeDiff, numR, memR, valR, heapR, updR, intR, decR, extR, slR, segR, thenR, pnR, Int.reduceToNat, Int.reduceAdd, Int.reduceSub, Int.reduceLT, Int.reduceLE, Nat.reduceSub, Nat.reduceMul, Nat.reduceEqDiff, joinR]
          refine one_spec fun w12 hx12 => ?_
          simp (disch := first | assumption | omega | (simp only [szR, entC_len, entC_all, fdC_len, fdC_all, layC_len, layC_all] <;> omega) | rfl | decide) only [gen0, gen1, gen2, rulesM, litR, bolR, Nat.reduceAdd, Nat.reduceLeDiff, numR, memR, valR, heapR, updR, intR, decR, extR, slR, segR, thenR, pnR, Int.reduceToNat, Int.reduceAdd, Int.reduceSub, Int.reduceLT, Int.reduceLE, Nat.reduceSub, Nat.reduceMul, Nat.reduceEqDiff, joinR]
          exact hK _ (Ext.trans (S := []) (by (repeat first | assumption | exact Ext.refl | apply Ext.alloc | apply Ext.drew | (refine Ext.updN ?_ ?_; (focus first | omega | (simp only [szR] <;> omega))) | (refine Ext.updI ?_ ?_; (focus (simp; done))))) hx12 (by simp))
        · simp (disch := first | assumption | omega | (simp only [szR, entC_len, entC_all, fdC_len, fdC_all, layC_len, layC_all] <;> omega) | rfl | decide) only [gen0, gen1, gen2, rulesM, litR, bolR, Nat.reduceAdd, Nat.reduceLeDiff, numR, memR, valR, heapR, updR, intR, decR, extR, slR, segR, thenR, pnR, Int.reduceToNat, Int.reduceAdd, Int.reduceSub, Int.reduceLT, Int.reduceLE, Nat.reduceSub, Nat.reduceMul, Nat.reduceEqDiff, joinR, hc21, entC_sub]
          refine Right_spec (by have := fr_lt (wd f n); omega) fun w12 hx12 => ?_
          have hx1112 : Ext [] w11 w12 := Ext.trans (S := []) (by (repeat first | assumption | exact Ext.refl | apply Ext.alloc | apply Ext.drew | (refine Ext.updN ?_ ?_; (focus first | omega | (simp only [szR] <;> omega))) | (refine Ext.updI ?_ ?_; (focus (simp; done))))) hx12 (by simp)
          have hc19 := hx1112.at hc19 (by simp)
          have hc21 := hx1112.at hc21 (by simp)
          have hxw12 := hxw11.trans hx1112 (by simp)
          cases hrr : right (fl (wd f n)) (fr (wd f n))
          · have e3 := hn3 (by rw [hl, hrr]; rfl)
            subst e3
            simp (disch := first | assumption | omega | (simp only [szR, entC_len, entC_all, fdC_len, fdC_all, layC_len, layC_all] <;> omega) | rfl | decide) only [gen0, gen1, gen2, rulesM, litR, bolR, Nat.reduceAdd, Nat.reduceLeDiff, numR, memR, valR, heapR, updR, intR, decR, extR, slR, segR, thenR, pnR, Int.reduceToNat, Int.reduceAdd, Int.reduceSub, Int.reduceLT, Int.reduceLE, Nat.reduceSub, Nat.reduceMul, Nat.reduceEqDiff, joinR]
            refine one_spec fun w13 hx13 => ?_
            simp (disch := first | assumption | omega | (simp only [szR, entC_len, entC_all, fdC_len, fdC_all, layC_len, layC_all] <;> omega) | rfl | decide) only [gen0, gen1, gen2, rulesM, litR, bolR, Nat.reduceAdd, Nat.reduceLeDiff, numR, memR, valR, heapR, updR, intR, decR, extR, slR, segR, thenR, pnR, Int.reduceToNat, Int.reduceAdd, Int.reduceSub, Int.reduceLT, Int.reduceLE, Nat.reduceSub, Nat.reduceMul, Nat.reduceEqDiff, joinR]
            exact hK _ (Ext.trans (S := []) (by (repeat first | assumption | exact Ext.refl | apply Ext.alloc | apply Ext.drew | (refine Ext.updN ?_ ?_; (focus first | omega | (simp only [szR] <;> omega))) | (refine Ext.updI ?_ ?_; (focus (simp; done))))) hx13 (by simp))
          · by_cases h8 : fr (wd f n) < 8
            · obtain ⟨e3, rfl, rfl, rfl⟩ := hsm3 (wd f n) (8192 + i * 8) (by rw [hl, hrr, decide_eq_true h8]; rfl)
              subst e3
              simp (disch := first | assumption | omega | (simp only [szR, entC_len, entC_all, fdC_len, fdC_all, layC_len, layC_all] <;> omega) | rfl | decide) only [gen0, gen1, gen2, rulesM, litR, bolR, Nat.reduceAdd, Nat.reduceLeDiff, numR, memR, valR, heapR, updR, intR, decR, extR, slR, segR, thenR, pnR, Int.reduceToNat, Int.reduceAdd, Int.reduceSub, Int.reduceLT, Int.reduceLE, Nat.reduceSub, Nat.reduceMul, Nat.reduceEqDiff, joinR, hc21, hc19, entC_at, entC_sub, fdC_sub13, fdC_at, eqlE, eqE_self, e8]
              refine one_spec fun w13 hx13 => ?_
              simp (disch := first | assumption | omega | (simp only [szR, entC_len, entC_all, fdC_len, fdC_all, layC_len, layC_all] <;> omega) | rfl | decide) only [gen0, gen1, gen2, rulesM, litR, bolR, Nat.reduceAdd, Nat.reduceLeDiff, numR, memR, valR, heapR, updR, intR, decR, extR, slR, segR, thenR, pnR, Int.reduceToNat, Int.reduceAdd, Int.reduceSub, Int.reduceLT, Int.reduceLE, Nat.reduceSub, Nat.reduceMul, Nat.reduceEqDiff, joinR]
              exact hK _ (Ext.trans (S := []) (by (repeat first | assumption | exact Ext.refl | apply Ext.alloc | apply Ext.drew | (refine Ext.updN ?_ ?_; (focus first | omega | (simp only [szR] <;> omega))) | (refine Ext.updI ?_ ?_; (focus (simp; done))))) hx13 (by simp))
            · have e3 := hn3 (by rw [hl, hrr, decide_eq_false h8]; rfl)
              subst e3
              simp (disch := first | assumption | omega | (simp only [szR, entC_len, entC_all, fdC_len, fdC_all, layC_len, layC_all] <;> omega) | rfl | decide) only [gen0, gen1, gen2, rulesM, litR, bolR, Nat.reduceAdd, Nat.reduceLeDiff, numR, memR, valR, heapR, updR, intR, decR, extR, slR, segR, thenR, pnR, Int.reduceToNat, Int.reduceAdd, Int.reduceSub, Int.reduceLT, Int.reduceLE, Nat.reduceSub, Nat.reduceMul, Nat.reduceEqDiff, joinR, hc21, hc19, entC_at, entC_sub, fdC_sub13, fdC_at, eqlE, eqE_self, e8]
              refine one_spec fun w13 hx13 => ?_
              simp (disch := first | assumption | omega | (simp only [szR, entC_len, entC_all, fdC_len, fdC_all, layC_len, layC_all] <;> omega) | rfl | decide) only [gen0, gen1, gen2, rulesM, litR, bolR, Nat.reduceAdd, Nat.reduceLeDiff, numR, memR, valR, heapR, updR, intR, decR, extR, slR, segR, thenR, pnR, Int.reduceToNat, Int.reduceAdd, Int.reduceSub, Int.reduceLT, Int.reduceLE, Nat.reduceSub, Nat.reduceMul, Nat.reduceEqDiff, joinR]
              exact hK _ (Ext.trans (S := []) (by (repeat first | assumption | exact Ext.refl | apply Ext.alloc | apply Ext.drew | (refine Ext.updN ?_ ?_; (focus first | omega | (simp only [szR] <;> omega))) | (refine Ext.updI ?_ ?_; (focus (simp; done))))) hx13 (by simp))
      · have hd : decide ((i : Int) ≠ (k : Int)) = true := decide_eq_true (by omega)
        obtain ⟨rfl, rfl, rfl, rfl⟩ := hsame hik
        simp (disch := first | assumption | omega | (simp only [szR, entC_len, entC_all, fdC_len, fdC_all, layC_len, layC_all] <;> omega) | rfl | decide) only [gen0, gen1, gen2, rulesM, litR, bolR, Nat.reduceAdd, Nat.reduceLeDiff, numR, memR, valR, heapR, updR, intR, decR, extR, slR, segR, thenR, pnR, Int.reduceToNat, Int.reduceAdd, Int.reduceSub, Int.reduceLT, Int.reduceLE, Nat.reduceSub, Nat.reduceMul, Nat.reduceEqDiff, joinR, hsf, hd, hc15, hc17, fdC_sub, neqF_self, hc5, entC_sub]
        refine hgo2 _ fun w9 hx9 hc19 => ?_
        simp (disch := first | assumption | omega | (simp only [szR, entC_len, entC_all, fdC_len, fdC_all, layC_len, layC_all] <;> omega) | rfl | decide) only [gen0, gen1, gen2, rulesM, litR, bolR, Nat.reduceAdd, Nat.reduceLeDiff, numR, memR, valR, heapR, updR, intR, decR, extR, slR, segR, thenR, pnR, Int.reduceToNat, Int.reduceAdd, Int.reduceSub, Int.reduceLT, Int.reduceLE, Nat.reduceSub, Nat.reduceMul, Nat.reduceEqDiff, joinR]
        refine Of_spec (by omega) fun w10 hx10 => ?_
        have hc19 := hx10.at hc19 (by simp)
        have hs10 := hx10.size
        have hl19 := lt_of_at hc19
        have hxw10 := (hxw8.trans hx9 (by simp)).trans hx10 (by simp)
        simp (disch := first | assumption | omega | (simp only [szR, entC_len, entC_all, fdC_len, fdC_all, layC_len, layC_all] <;> omega) | rfl | decide) only [gen0, gen1, gen2, rulesM, litR, bolR, Nat.reduceAdd, Nat.reduceLeDiff, numR, memR, valR, heapR, updR, intR, decR, extR, slR, segR, thenR, pnR, Int.reduceToNat, Int.reduceAdd, Int.reduceSub, Int.reduceLT, Int.reduceLE, Nat.reduceSub, Nat.reduceMul, Nat.reduceEqDiff, joinR, hse, entC_sub]
        refine Leaf_spec fun w11 hx11 => ?_
        have hk11 := kept0 hx11
        have hs11 := hx11.size
        simp only [szR] at hs11
        have hx1011 : Ext [] w10 w11 := Ext.trans (S := []) (by (repeat first | assumption | exact Ext.refl | apply Ext.alloc | apply Ext.drew | (refine Ext.updN ?_ ?_; (focus first | omega | (simp only [szR] <;> omega))) | (refine Ext.updI ?_ ?_; (focus (simp; done))))) hx11 (by simp)
        have hc19 := hx1011.at hc19 (by simp)
        have hc21 : w11.heap[w10.heap.size]? = some (.cells (entC (fl (wd f n)) (fr (wd f n))).toArray 32 (0, 0)) := (by first | with_reducible rfl | assumption | (simp (disch := first | assumption | omega | (simp only [szR, entC_len, entC_all, fdC_len, fdC_all, layC_len, layC_all] <;> omega) | rfl | decide) only [gen0, gen1, gen2, rulesM, litR, bolR, Nat.reduceAdd, Nat.reduceLeDiff, numR, memR, valR, heapR, updR, intR, decR, extR, slR, segR, thenR, pnR, Int.reduceToNat, Int.reduceAdd, Int.reduceSub, Int.reduceLT, Int.reduceLE, Nat.reduceSub, Nat.reduceMul, Nat.reduceEqDiff, hk11, hse] <;> rfl) | simp (disch := first | assumption | omega | (simp only [szR, entC_len, entC_all, fdC_len, fdC_all, layC_len, layC_all] <;> omega) | rfl | decide) only [gen0, gen1, gen2, rulesM, litR, bolR, Nat.reduceAdd, Nat.reduceLeDiff, numR, memR, valR, heapR, updR, intR, decR, extR, slR, segR, thenR, pnR, Int.reduceToNat, Int.reduceAdd, Int.reduceSub, Int.reduceLT, Int.reduceLE, Nat.reduceSub, Nat.reduceMul, Nat.reduceEqDiff, hk11, hse])
        have hxw11 := hxw10.trans hx1011 (by simp)
        cases hl : leaf (fl (wd f n))
        · have e3 := hn3 (by rw [hl]; rfl)
          subst e3
          simp (disch := first | assumption | omega | (simp only [szR, entC_len, entC_all, fdC_len, fdC_all, layC_len, layC_all] <;> omega) | rfl | decide) only [gen0, gen1, gen2, rulesM, litR, bolR, Nat.reduceAdd, Nat.reduceLeDiff, numR, memR, valR, heapR, updR, intR, decR, extR, slR, segR, thenR, pnR, Int.reduceToNat, Int.reduceAdd, Int.reduceSub, Int.reduceLT, Int.reduceLE, Nat.reduceSub, Nat.reduceMul, Nat.reduceEqDiff, joinR]
          refine one_spec fun w12 hx12 => ?_
          simp (disch := first | assumption | omega | (simp only [szR, entC_len, entC_all, fdC_len, fdC_all, layC_len, layC_all] <;> omega) | rfl | decide) only [gen0, gen1, gen2, rulesM, litR, bolR, Nat.reduceAdd, Nat.reduceLeDiff, numR, memR, valR, heapR, updR, intR, decR, extR, slR, segR, thenR, pnR, Int.reduceToNat, Int.reduceAdd, Int.reduceSub, Int.reduceLT, Int.reduceLE, Nat.reduceSub, Nat.reduceMul, Nat.reduceEqDiff, joinR]
          exact hK _ (Ext.trans (S := []) (by (repeat first | assumption | exact Ext.refl | apply Ext.alloc | apply Ext.drew | (refine Ext.updN ?_ ?_; (focus first | omega | (simp only [szR] <;> omega))) | (refine Ext.updI ?_ ?_; (focus (simp; done))))) hx12 (by simp))
        · simp (disch := first | assumption | omega | (simp only [szR, entC_len, entC_all, fdC_len, fdC_all, layC_len, layC_all] <;> omega) | rfl | decide) only [gen0, gen1, gen2, rulesM, litR, bolR, Nat.reduceAdd, Nat.reduceLeDiff, numR, memR, valR, heapR, updR, intR, decR, extR, slR, segR, thenR, pnR, Int.reduceToNat, Int.reduceAdd, Int.reduceSub, Int.reduceLT, Int.reduceLE, Nat.reduceSub, Nat.reduceMul, Nat.reduceEqDiff, joinR, hc21, entC_sub]
          refine Right_spec (by have := fr_lt (wd f n); omega) fun w12 hx12 => ?_
          have hx1112 : Ext [] w11 w12 := Ext.trans (S := []) (by (repeat first | assumption | exact Ext.refl | apply Ext.alloc | apply Ext.drew | (refine Ext.updN ?_ ?_; (focus first | omega | (simp only [szR] <;> omega))) | (refine Ext.updI ?_ ?_; (focus (simp; done))))) hx12 (by simp)
          have hc19 := hx1112.at hc19 (by simp)
          have hc21 := hx1112.at hc21 (by simp)
          have hxw12 := hxw11.trans hx1112 (by simp)
          cases hrr : right (fl (wd f n)) (fr (wd f n))
          · have e3 := hn3 (by rw [hl, hrr]; rfl)
            subst e3
            simp (disch := first | assumption | omega | (simp only [szR, entC_len, entC_all, fdC_len, fdC_all, layC_len, layC_all] <;> omega) | rfl | decide) only [gen0, gen1, gen2, rulesM, litR, bolR, Nat.reduceAdd, Nat.reduceLeDiff, numR, memR, valR, heapR, updR, intR, decR, extR, slR, segR, thenR, pnR, Int.reduceToNat, Int.reduceAdd, Int.reduceSub, Int.reduceLT, Int.reduceLE, Nat.reduceSub, Nat.reduceMul, Nat.reduceEqDiff, joinR]
            refine one_spec fun w13 hx13 => ?_
            simp (disch := first | assumption | omega | (simp only [szR, entC_len, entC_all, fdC_len, fdC_all, layC_len, layC_all] <;> omega) | rfl | decide) only [gen0, gen1, gen2, rulesM, litR, bolR, Nat.reduceAdd, Nat.reduceLeDiff, numR, memR, valR, heapR, updR, intR, decR, extR, slR, segR, thenR, pnR, Int.reduceToNat, Int.reduceAdd, Int.reduceSub, Int.reduceLT, Int.reduceLE, Nat.reduceSub, Nat.reduceMul, Nat.reduceEqDiff, joinR]
            exact hK _ (Ext.trans (S := []) (by (repeat first | assumption | exact Ext.refl | apply Ext.alloc | apply Ext.drew | (refine Ext.updN ?_ ?_; (focus first | omega | (simp only [szR] <;> omega))) | (refine Ext.updI ?_ ?_; (focus (simp; done))))) hx13 (by simp))
          · by_cases h8 : fr (wd f n) < 8
            · obtain ⟨e3, rfl, rfl, rfl⟩ := hsm3 (wd f n) (8192 + i * 8) (by rw [hl, hrr, decide_eq_true h8]; rfl)
              subst e3
              simp (disch := first | assumption | omega | (simp only [szR, entC_len, entC_all, fdC_len, fdC_all, layC_len, layC_all] <;> omega) | rfl | decide) only [gen0, gen1, gen2, rulesM, litR, bolR, Nat.reduceAdd, Nat.reduceLeDiff, numR, memR, valR, heapR, updR, intR, decR, extR, slR, segR, thenR, pnR, Int.reduceToNat, Int.reduceAdd, Int.reduceSub, Int.reduceLT, Int.reduceLE, Nat.reduceSub, Nat.reduceMul, Nat.reduceEqDiff, joinR, hc21, hc19, entC_at, entC_sub, fdC_sub13, fdC_at, eqlE, eqE_self, e8]
              refine one_spec fun w13 hx13 => ?_
              simp (disch := first | assumption | omega | (simp only [szR, entC_len, entC_all, fdC_len, fdC_all, layC_len, layC_all] <;> omega) | rfl | decide) only [gen0, gen1, gen2, rulesM, litR, bolR, Nat.reduceAdd, Nat.reduceLeDiff, numR, memR, valR, heapR, updR, intR, decR, extR, slR, segR, thenR, pnR, Int.reduceToNat, Int.reduceAdd, Int.reduceSub, Int.reduceLT, Int.reduceLE, Nat.reduceSub, Nat.reduceMul, Nat.reduceEqDiff, joinR]
              exact hK _ (Ext.trans (S := []) (by (repeat first | assumption | exact Ext.refl | apply Ext.alloc | apply Ext.drew | (refine Ext.updN ?_ ?_; (focus first | omega | (simp only [szR] <;> omega))) | (refine Ext.updI ?_ ?_; (focus (simp; done))))) hx13 (by simp))
            · have e3 := hn3 (by rw [hl, hrr, decide_eq_false h8]; rfl)
              subst e3
              simp (disch := first | assumption | omega | (simp only [szR, entC_len, entC_all, fdC_len, fdC_all, layC_len, layC_all] <;> omega) | rfl | decide) only [gen0, gen1, gen2, rulesM, litR, bolR, Nat.reduceAdd, Nat.reduceLeDiff, numR, memR, valR, heapR, updR, intR, decR, extR, slR, segR, thenR, pnR, Int.reduceToNat, Int.reduceAdd, Int.reduceSub, Int.reduceLT, Int.reduceLE, Nat.reduceSub, Nat.reduceMul, Nat.reduceEqDiff, joinR, hc21, hc19, entC_at, entC_sub, fdC_sub13, fdC_at, eqlE, eqE_self, e8]
              refine one_spec fun w13 hx13 => ?_
              simp (disch := first | assumption | omega | (simp only [szR, entC_len, entC_all, fdC_len, fdC_all, layC_len, layC_all] <;> omega) | rfl | decide) only [gen0, gen1, gen2, rulesM, litR, bolR, Nat.reduceAdd, Nat.reduceLeDiff, numR, memR, valR, heapR, updR, intR, decR, extR, slR, segR, thenR, pnR, Int.reduceToNat, Int.reduceAdd, Int.reduceSub, Int.reduceLT, Int.reduceLE, Nat.reduceSub, Nat.reduceMul, Nat.reduceEqDiff, joinR]
              exact hK _ (Ext.trans (S := []) (by (repeat first | assumption | exact Ext.refl | apply Ext.alloc | apply Ext.drew | (refine Ext.updN ?_ ?_; (focus first | omega | (simp only [szR] <;> omega))) | (refine Ext.updI ?_ ?_; (focus (simp; done))))) hx13 (by simp))
end Go.Proofs.Ytbigiabcgplkgaa
