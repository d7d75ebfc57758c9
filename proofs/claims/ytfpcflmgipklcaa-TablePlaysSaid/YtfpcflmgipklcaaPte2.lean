/- Entries of page tables: their numbers and back; conditions: those of each theorem. -/
import Derived.Test.YtfpcflmgipklcaaPte
namespace Go.Proofs.Ytfpcflmgipklcaa
open Go.Fx
set_option maxRecDepth 100000
set_option linter.unusedSimpArgs false
set_option linter.unusedVariables false
theorem entC_eq (f : Nat → Bool) (n : Nat) : [.bool (f 0), .bool (f 1), .bool (f 2), .bool (f 3), .bool (f 4), .bool (f 5), .bool (f 6), .bool (f 7), .bool (f 8), .bool (f 9), .bool (f 10), .bool (f 11), .int .u64 n] = entC f n := rfl
theorem splice_over {l vs : List Value} (h : l.length = vs.length) : splice l 0 vs = vs := by simp [splice, ← h]
theorem Word_spec {w : World} {f : Nat → Bool} {n : Nat} (hn : n < 18446744073709551616) {K : Value → World → Prop} (hK : ∀ w', Ext [] w w' → K (.int .u64 (wd f n : Nat)) w') : callsK Try.prog 26 #[.agg (entC f n).toArray] w K := by
  have hg12 : (entC f n)[12]? = some (.int .u64 n) := rfl
  apply F26_ok
  unfold F26
  simp (disch := first | assumption | omega | (simp only [szR, entC_len, entC_all, ptrs_len, placesL_len] <;> omega) | rfl | decide) only [gen0, gen1, gen2, rulesM, litR, bolR, Nat.reduceAdd, Nat.reduceLeDiff, numR, memR, valR, heapR, updR, intR, decR, extR, slR, segR, thenR, pnR, Int.reduceToNat, Int.reduceAdd, Int.reduceSub, Int.reduceLT, Int.reduceLE, Nat.reduceSub, Nat.reduceMul, Nat.reduceEqDiff, hg12]
  refine Put_spec hn fun w1 hx1 => ?_
  have hs1 := hx1.size
  try simp only [szR] at hs1
  simp (disch := first | assumption | omega | (simp only [szR, entC_len, entC_all, ptrs_len, placesL_len] <;> omega) | rfl | decide) only [gen0, gen1, gen2, rulesM, litR, bolR, Nat.reduceAdd, Nat.reduceLeDiff, numR, memR, valR, heapR, updR, intR, decR, extR, slR, segR, thenR, pnR, Int.reduceToNat, Int.reduceAdd, Int.reduceSub, Int.reduceLT, Int.reduceLE, Nat.reduceSub, Nat.reduceMul, Nat.reduceEqDiff]
  refine flagsOf_spec fun w2 hx2 => ?_
  have hs2 := hx2.size
  try simp only [szR] at hs2
  have hk1 := kept0 hx1
  have hk2 := kept0 hx2
  have hx02 : Ext [] w w2 := by
    refine Ext.trans (Ext.trans ?_ hx1 (by simp)) hx2 (by simp)
    (repeat first | assumption | exact Ext.refl | apply Ext.alloc | apply Ext.drew | (refine Ext.updN ?_ ?_; (focus first | omega | (simp only [szR] <;> omega))) | (refine Ext.updI ?_ ?_; (focus (simp; done))))
  have hz : ∀ L : List Value, L.length = 12 → splice L 0 (ptrs w.heap.size) = ptrs w.heap.size := fun L h => splice_over (by rw [h, ptrs_len])
  simp (disch := first | assumption | omega | (simp only [szR, entC_len, entC_all, ptrs_len, placesL_len] <;> omega) | rfl | decide) only [gen0, gen1, gen2, rulesM, litR, bolR, Nat.reduceAdd, Nat.reduceLeDiff, numR, memR, valR, heapR, updR, intR, decR, extR, slR, segR, thenR, pnR, Int.reduceToNat, Int.reduceAdd, Int.reduceSub, Int.reduceLT, Int.reduceLE, Nat.reduceSub, Nat.reduceMul, Nat.reduceEqDiff, hz]
  refine places_spec fun w3 hx3 => ?_
  have hs3 := hx3.size
  try simp only [szR] at hs3
  have hk3 := kept0 hx3
  have hc3 : w3.heap[w.heap.size]? = some (.cells (entC f n).toArray 40 (0, 0)) := (by first | with_reducible rfl | assumption | (simp (disch := first | assumption | omega | (simp only [szR, entC_len, entC_all, ptrs_len, placesL_len] <;> omega) | rfl | decide) only [gen0, gen1, gen2, rulesM, litR, bolR, Nat.reduceAdd, Nat.reduceLeDiff, numR, memR, valR, heapR, updR, intR, decR, extR, slR, segR, thenR, pnR, Int.reduceToNat, Int.reduceAdd, Int.reduceSub, Int.reduceLT, Int.reduceLE, Nat.reduceSub, Nat.reduceMul, Nat.reduceEqDiff, hk3, hk2, hk1] <;> rfl))
  have hp3 : w3.heap[w2.heap.size]? = some (.cells (ptrs w.heap.size).toArray 105 (0, 0)) := (by first | with_reducible rfl | assumption | (simp (disch := first | assumption | omega | (simp only [szR, entC_len, entC_all, ptrs_len, placesL_len] <;> omega) | rfl | decide) only [gen0, gen1, gen2, rulesM, litR, bolR, Nat.reduceAdd, Nat.reduceLeDiff, numR, memR, valR, heapR, updR, intR, decR, extR, slR, segR, thenR, pnR, Int.reduceToNat, Int.reduceAdd, Int.reduceSub, Int.reduceLT, Int.reduceLE, Nat.reduceSub, Nat.reduceMul, Nat.reduceEqDiff, hk3] <;> rfl))
  have hx03 : Ext [] w w3 := by
    refine Ext.trans ?_ hx3 (by simp)
    (repeat first | assumption | exact Ext.refl | apply Ext.alloc | apply Ext.drew | (refine Ext.updN ?_ ?_; (focus first | omega | (simp only [szR] <;> omega))) | (refine Ext.updI ?_ ?_; (focus (simp; done))))
  refine loopT.intro (fun st w' => ∃ (k : Nat) (z : Int), k ≤ 12 ∧ st = [.int .u64 (wordOf f n k : Nat), .int .i64 z] ∧ z = k ∧ w' = w3)
    (fun st _ => match st with
      | [_, .int _ z] => 12 - z.toNat
      | _ => 0) ⟨0, 0, by omega, rfl, rfl, rfl⟩ ?_
  rintro st w' ⟨k, z, hk, rfl, rfl, rfl⟩ _
  by_cases hkn : k < 12
  · have e1 := placesL_get hkn
    have e2 := ptrs_get (b := w.heap.size) hkn
    have e3 := entC_get (f := f) (n := n) hkn
    have hps := pos_lt hkn
    simp (disch := first | assumption | omega | (simp only [szR, entC_len, entC_all, ptrs_len, placesL_len] <;> omega) | rfl | decide) only [gen0, gen1, gen2, rulesM, litR, bolR, Nat.reduceAdd, Nat.reduceLeDiff, numR, memR, valR, heapR, updR, intR, decR, extR, slR, segR, thenR, pnR, Int.reduceToNat, Int.reduceAdd, Int.reduceSub, Int.reduceLT, Int.reduceLE, Nat.reduceSub, Nat.reduceMul, Nat.reduceEqDiff]
    refine joinL.intro fun J0 hJ0 => ?_
    have hlt := wordOf_small f n k hk
    have hlt2 := wordOf_small f n (k + 1) hkn
    have hor := wordOf_or f n k hkn
    have hnx : wordOf f n (k + 1) = wordOf f n k + if f k then 2 ^ pos k else 0 := rfl
    have hsh := shl_bit (i := (pos k : Int)) ⟨by omega, by omega⟩
    rw [Int.toNat_natCast] at hsh
    have hfin : J0 [.int .u64 (wordOf f n (k + 1) : Nat)] w' := by
      apply hJ0
      intro _
      simp (disch := first | assumption | omega | (simp only [szR, entC_len, entC_all, ptrs_len, placesL_len] <;> omega) | rfl | decide) only [gen0, gen1, gen2, rulesM, litR, bolR, Nat.reduceAdd, Nat.reduceLeDiff, numR, memR, valR, heapR, updR, intR, decR, extR, slR, segR, thenR, pnR, Int.reduceToNat, Int.reduceAdd, Int.reduceSub, Int.reduceLT, Int.reduceLE, Nat.reduceSub, Nat.reduceMul, Nat.reduceEqDiff]
      exact ⟨⟨k + 1, (k : Int) + 1, by omega, rfl, by omega, by first | rfl | trivial⟩, by first | omega | (simp <;> omega)⟩
    by_cases hb : f k = true
    · rw [hb] at hnx
      simp only [if_true] at hnx
      generalize wordOf f n (k + 1) = y at hfin hlt2 hnx
      generalize wordOf f n k = x at *
      generalize 2 ^ pos k = p at *
      have hor2 := or_u64 (a := (x : Int)) (b := (p : Int)) (by omega) (by omega)
      simp only [Int.toNat_natCast, hor] at hor2
      rw [hnx] at hfin
      simp (disch := first | assumption | omega | (simp only [szR, entC_len, entC_all, ptrs_len, placesL_len] <;> omega) | rfl | decide) only [gen0, gen1, gen2, rulesM, litR, bolR, Nat.reduceAdd, Nat.reduceLeDiff, numR, memR, valR, heapR, updR, intR, decR, extR, slR, segR, thenR, pnR, Int.reduceToNat, Int.reduceAdd, Int.reduceSub, Int.reduceLT, Int.reduceLE, Nat.reduceSub, Nat.reduceMul, Nat.reduceEqDiff, hc3, hp3, e1, e2, e3, Int.toNat_natCast, Nat.mul_one, Nat.zero_add, hb, hsh, hor2]
      exact hfin
    · simp only [Bool.not_eq_true] at hb
      rw [hb] at hnx
      simp only [Bool.false_eq_true, if_false, Nat.add_zero] at hnx
      rw [hnx] at hfin
      simp (disch := first | assumption | omega | (simp only [szR, entC_len, entC_all, ptrs_len, placesL_len] <;> omega) | rfl | decide) only [gen0, gen1, gen2, rulesM, litR, bolR, Nat.reduceAdd, Nat.reduceLeDiff, numR, memR, valR, heapR, updR, intR, decR, extR, slR, segR, thenR, pnR, Int.reduceToNat, Int.reduceAdd, Int.reduceSub, Int.reduceLT, Int.reduceLE, Nat.reduceSub, Nat.reduceMul, Nat.reduceEqDiff, hc3, hp3, e1, e2, e3, Int.toNat_natCast, Nat.mul_one, Nat.zero_add, hb]
      exact hfin
  · obtain rfl : k = 12 := by omega
    simp (disch := first | assumption | omega | (simp only [szR, entC_len, entC_all, ptrs_len, placesL_len] <;> omega) | rfl | decide) only [gen0, gen1, gen2, rulesM, litR, bolR, Nat.reduceAdd, Nat.reduceLeDiff, numR, memR, valR, heapR, updR, intR, decR, extR, slR, segR, thenR, pnR, Int.reduceToNat, Int.reduceAdd, Int.reduceSub, Int.reduceLT, Int.reduceLE, Nat.reduceSub, Nat.reduceMul, Nat.reduceEqDiff]
    exact hK _ hx03
def ofN (x k : Nat) : Nat → Bool := fun j => decide (j < k) && fl x j
theorem ofN_succ (x k : Nat) : upd1 (ofN x k) k (fl x k) = ofN x (k + 1) := by
  funext j
  unfold upd1 ofN
  by_cases h : j = k
  · subst h; simp
  · rw [if_neg h]
    congr 1
    rw [Bool.eq_iff_iff]
    simp only [decide_eq_true_eq]
    omega
theorem Of_spec {w : World} {x : Nat} (hx : x < 18446744073709551616) {K : Value → World → Prop} (hK : ∀ w', Ext [] w w' → K (.agg (entC (fl x) (fr x)).toArray) w') : callsK Try.prog 25 #[.int .u64 x] w K := by
  have h10 : x / 2 ^ (10 : Int).toNat % 2 ^ (44 : Int).toNat = fr x := rfl
  have hzf : [.bool false, .bool false, .bool false, .bool false, .bool false, .bool false, .bool false, .bool false, .bool false, .bool false, .bool false, .bool false, .int .u64 (fr x : Int)] = entC (ofN x 0) (fr x) := by simp [entC, ofN]
  apply F25_ok
  unfold F25
  simp (disch := first | assumption | omega | (simp only [szR, entC_len, entC_all, ptrs_len, placesL_len] <;> omega) | rfl | decide) only [gen0, gen1, gen2, rulesM, litR, bolR, Nat.reduceAdd, Nat.reduceLeDiff, numR, memR, valR, heapR, updR, intR, decR, extR, slR, segR, thenR, pnR, Int.reduceToNat, Int.reduceAdd, Int.reduceSub, Int.reduceLT, Int.reduceLE, Nat.reduceSub, Nat.reduceMul, Nat.reduceEqDiff]
  refine Get_spec (by omega) (by omega) (by omega) hx fun w1 hx1 => ?_
  rw [h10]
  have hs1 := hx1.size
  try simp only [szR] at hs1
  have hso : ∀ L : List Value, L.length = 13 → splice L 0 (entC (ofN x 0) (fr x)) = entC (ofN x 0) (fr x) := fun L h => splice_over (by rw [h, entC_len])
  simp (disch := first | assumption | omega | (simp only [szR, entC_len, entC_all, ptrs_len, placesL_len] <;> omega) | rfl | decide) only [gen0, gen1, gen2, rulesM, litR, bolR, Nat.reduceAdd, Nat.reduceLeDiff, numR, memR, valR, heapR, updR, intR, decR, extR, slR, segR, thenR, pnR, Int.reduceToNat, Int.reduceAdd, Int.reduceSub, Int.reduceLT, Int.reduceLE, Nat.reduceSub, Nat.reduceMul, Nat.reduceEqDiff, hzf, hso]
  refine flagsOf_spec fun w2 hx2 => ?_
  have hs2 := hx2.size
  try simp only [szR] at hs2
  have hk1 := kept0 hx1
  have hk2 := kept0 hx2
  have hx02 : Ext [] w w2 := by
    have h1 : Ext [] w w1 := Ext.trans (S := []) (by (repeat first | assumption | exact Ext.refl | apply Ext.alloc | apply Ext.drew | (refine Ext.updN ?_ ?_; (focus first | omega | (simp only [szR] <;> omega))) | (refine Ext.updI ?_ ?_; (focus (simp; done))))) hx1 (by simp)
    exact Ext.trans (S := []) (by (repeat first | assumption | exact Ext.refl | apply Ext.alloc | apply Ext.drew | (refine Ext.updN ?_ ?_; (focus first | omega | (simp only [szR] <;> omega))) | (refine Ext.updI ?_ ?_; (focus (simp; done))))) hx2 (by simp)
  have hz : ∀ L : List Value, L.length = 12 → splice L 0 (ptrs w1.heap.size) = ptrs w1.heap.size := fun L h => splice_over (by rw [h, ptrs_len])
  simp (disch := first | assumption | omega | (simp only [szR, entC_len, entC_all, ptrs_len, placesL_len] <;> omega) | rfl | decide) only [gen0, gen1, gen2, rulesM, litR, bolR, Nat.reduceAdd, Nat.reduceLeDiff, numR, memR, valR, heapR, updR, intR, decR, extR, slR, segR, thenR, pnR, Int.reduceToNat, Int.reduceAdd, Int.reduceSub, Int.reduceLT, Int.reduceLE, Nat.reduceSub, Nat.reduceMul, Nat.reduceEqDiff, hz]
  refine places_spec fun w3 hx3 => ?_
  have hs3 := hx3.size
  try simp only [szR] at hs3
  have hk3 := kept0 hx3
  refine loopT.intro (fun (st : List Value) (w' : World) => ∃ (k : Nat) (z : Int), k ≤ 12 ∧ st = [.int .i64 z] ∧ z = k ∧ w'.heap[w1.heap.size]? = some (.cells (entC (ofN x k) (fr x)).toArray 40 (0, 0)) ∧ w'.heap[w2.heap.size]? = some (.cells (ptrs w1.heap.size).toArray 105 (0, 0)) ∧
      (∃ L : List Value, w'.heap[w.heap.size]? = some (.cells L.toArray 40 (0, 0)) ∧ L.length = 13) ∧ Ext [] w w')
    (fun st _ => match st with
      | [.int _ z] => 12 - z.toNat
      | _ => 0) ⟨0, 0, by omega, rfl, rfl, ?_, ?_, ⟨entC (fun _ => false) 0, ?_, entC_len _ _⟩, ?_⟩ ?_
  · (first | with_reducible rfl | assumption | (simp (disch := first | assumption | omega | (simp only [szR, entC_len, entC_all, ptrs_len, placesL_len] <;> omega) | rfl | decide) only [gen0, gen1, gen2, rulesM, litR, bolR, Nat.reduceAdd, Nat.reduceLeDiff, numR, memR, valR, heapR, updR, intR, decR, extR, slR, segR, thenR, pnR, Int.reduceToNat, Int.reduceAdd, Int.reduceSub, Int.reduceLT, Int.reduceLE, Nat.reduceSub, Nat.reduceMul, Nat.reduceEqDiff, hk3, hk2] <;> try rfl))
  · (first | with_reducible rfl | assumption | (simp (disch := first | assumption | omega | (simp only [szR, entC_len, entC_all, ptrs_len, placesL_len] <;> omega) | rfl | decide) only [gen0, gen1, gen2, rulesM, litR, bolR, Nat.reduceAdd, Nat.reduceLeDiff, numR, memR, valR, heapR, updR, intR, decR, extR, slR, segR, thenR, pnR, Int.reduceToNat, Int.reduceAdd, Int.reduceSub, Int.reduceLT, Int.reduceLE, Nat.reduceSub, Nat.reduceMul, Nat.reduceEqDiff, hk3] <;> try rfl))
  · (first | with_reducible rfl | assumption | (simp (disch := first | assumption | omega | (simp only [szR, entC_len, entC_all, ptrs_len, placesL_len] <;> omega) | rfl | decide) only [gen0, gen1, gen2, rulesM, litR, bolR, Nat.reduceAdd, Nat.reduceLeDiff, numR, memR, valR, heapR, updR, intR, decR, extR, slR, segR, thenR, pnR, Int.reduceToNat, Int.reduceAdd, Int.reduceSub, Int.reduceLT, Int.reduceLE, Nat.reduceSub, Nat.reduceMul, Nat.reduceEqDiff, hk3, hk2, hk1] <;> try rfl))
  · exact Ext.trans (S := []) (by (repeat first | assumption | exact Ext.refl | apply Ext.alloc | apply Ext.drew | (refine Ext.updN ?_ ?_; (focus first | omega | (simp only [szR] <;> omega))) | (refine Ext.updI ?_ ?_; (focus (simp; done))))) hx3 (by simp)
  rintro st w' ⟨k, z, hk, rfl, rfl, hc, hp, ⟨L, hL, hLl⟩, hxw⟩ _
  have l1 := lt_of_at hc
  have l2 := lt_of_at hp
  have l3 := lt_of_at hL
  have hne : w1.heap.size ≠ w2.heap.size := by omega
  by_cases hkn : k < 12
  · have e1 := placesL_get hkn
    have e2 := ptrs_get (b := w1.heap.size) hkn
    have hps := pos_lt hkn
    have hfd := fdiv_pow (v := x) (by omega) (pos k)
    rw [Int.toNat_natCast] at hfd
    have hst : (entC (ofN x k) (fr x)).set k (.bool (fl x k)) = entC (ofN x (k + 1)) (fr x) := by rw [entC_set hkn, ofN_succ]
    have hfl : decide (((x / 2 ^ pos k % 2 : Nat) : Int) ≠ 0) = fl x k := by
      unfold fl
      rw [Bool.eq_iff_iff]
      simp only [decide_eq_true_eq]
      omega
    have hq : x / 2 ^ pos k < 18446744073709551616 := Nat.lt_of_le_of_lt (Nat.div_le_self _ _) hx
    generalize x / 2 ^ pos k = q at hfd hq hfl
    have hand := and_u64 (a := (q : Int)) (b := 1) (by omega) (by omega)
    rw [Int.toNat_natCast, show (1 : Int).toNat = 1 from rfl, Nat.and_one_is_mod] at hand
    simp (disch := first | assumption | omega | (simp only [szR, entC_len, entC_all, ptrs_len, placesL_len] <;> omega) | rfl | decide) only [gen0, gen1, gen2, rulesM, litR, bolR, Nat.reduceAdd, Nat.reduceLeDiff, numR, memR, valR, heapR, updR, intR, decR, extR, slR, segR, thenR, pnR, Int.reduceToNat, Int.reduceAdd, Int.reduceSub, Int.reduceLT, Int.reduceLE, Nat.reduceSub, Nat.reduceMul, Nat.reduceEqDiff, hc, hp, e1, e2, hfd, hand, hfl, Int.toNat_natCast, Nat.mul_one, Nat.zero_add]
    refine ⟨⟨k + 1, (k : Int) + 1, by omega, rfl, by omega, ?_, ?_, ⟨L, ?_, hLl⟩, ?_⟩, by first | omega | (simp <;> omega)⟩
    · first
        | (rw [← hst]; done)
        | (rw [← hst]; (first | with_reducible rfl | assumption | (simp (disch := first | assumption | omega | (simp only [szR, entC_len, entC_all, ptrs_len, placesL_len] <;> omega) | rfl | decide) only [gen0, gen1, gen2, rulesM, litR, bolR, Nat.reduceAdd, Nat.reduceLeDiff, numR, memR, valR, heapR, updR, intR, decR, extR, slR, segR, thenR, pnR, Int.reduceToNat, Int.reduceAdd, Int.reduceSub, Int.reduceLT, Int.reduceLE, Nat.reduceSub, Nat.reduceMul, Nat.reduceEqDiff, hc] <;> try rfl)))
    · (first | with_reducible rfl | assumption | (simp (disch := first | assumption | omega | (simp only [szR, entC_len, entC_all, ptrs_len, placesL_len] <;> omega) | rfl | decide) only [gen0, gen1, gen2, rulesM, litR, bolR, Nat.reduceAdd, Nat.reduceLeDiff, numR, memR, valR, heapR, updR, intR, decR, extR, slR, segR, thenR, pnR, Int.reduceToNat, Int.reduceAdd, Int.reduceSub, Int.reduceLT, Int.reduceLE, Nat.reduceSub, Nat.reduceMul, Nat.reduceEqDiff, hp] <;> try rfl))
    · (first | with_reducible rfl | assumption | (simp (disch := first | assumption | omega | (simp only [szR, entC_len, entC_all, ptrs_len, placesL_len] <;> omega) | rfl | decide) only [gen0, gen1, gen2, rulesM, litR, bolR, Nat.reduceAdd, Nat.reduceLeDiff, numR, memR, valR, heapR, updR, intR, decR, extR, slR, segR, thenR, pnR, Int.reduceToNat, Int.reduceAdd, Int.reduceSub, Int.reduceLT, Int.reduceLE, Nat.reduceSub, Nat.reduceMul, Nat.reduceEqDiff, hL] <;> try rfl))
    · (repeat first | assumption | exact Ext.refl | apply Ext.alloc | apply Ext.drew | (refine Ext.updN ?_ ?_; (focus first | omega | (simp only [szR] <;> omega))) | (refine Ext.updI ?_ ?_; (focus (simp; done))))
  · obtain rfl : k = 12 := by omega
    have he : entC (ofN x 12) (fr x) = entC (fl x) (fr x) := entC_congr fun j hj => by simp [ofN, hj]
    rw [he] at hc
    have hso2 : splice L 0 (entC (fl x) (fr x)) = entC (fl x) (fr x) := splice_over (by rw [hLl, entC_len])
    simp (disch := first | assumption | omega | (simp only [szR, entC_len, entC_all, ptrs_len, placesL_len] <;> omega) | rfl | decide) only [gen0, gen1, gen2, rulesM, litR, bolR, Nat.reduceAdd, Nat.reduceLeDiff, numR, memR, valR, heapR, updR, intR, decR, extR, slR, segR, thenR, pnR, Int.reduceToNat, Int.reduceAdd, Int.reduceSub, Int.reduceLT, Int.reduceLE, Nat.reduceSub, Nat.reduceMul, Nat.reduceEqDiff, hc, hL, entC_sub, hso2]
    exact hK _ (by (repeat first | assumption | exact Ext.refl | apply Ext.alloc | apply Ext.drew | (refine Ext.updN ?_ ?_; (focus first | omega | (simp only [szR] <;> omega))) | (refine Ext.updI ?_ ?_; (focus (simp; done)))))
end Go.Proofs.Ytfpcflmgipklcaa
