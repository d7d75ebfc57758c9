/- Instructions of words: decoded; conditions: those of each theorem. -/
import Derived.Test.YtplfniijbeinmaaGreatDec2
namespace Go.Proofs.YtplfniijbeinmaaGreat
open Go.Fx
set_option maxRecDepth 100000
set_option linter.unusedSimpArgs false
set_option linter.unusedVariables false
theorem run_indexN {P : Program} {t e : TypeId} {n m : Nat} (h : P.underlying t = some (.array n e)) (ha : ∀ w, (isAgg e).run P w = .ok true w) (hs : ∀ w, (sizeOf e).run P w = .ok m w) (vs : List Value) (k : IntKind) (i : Int) (w : World) (hi : 0 ≤ i ∧ i < n) :
    (Instr.index t (.agg vs.toArray) (.int k i)).run P w = .ok (.agg (sub vs (i.toNat * m) m).toArray) w := by
  have hp := partN (P := P) (t := e) (xs := vs.toArray) (o := i.toNat * m) (n := m) (w := w) ha hs
  have hx : vs.toArray.extract (i.toNat * m) (i.toNat * m + m) = (sub vs (i.toNat * m) m).toArray := by
    rw [List.extract_toArray, List.extract_eq_take_drop, sub, Nat.add_sub_cancel_left]
  simp only [Instr.index, asIntOf, Sem.run_bind, Sem.run_pure, Result.andThen_ok, run_underlying h, hi, and_self, if_true, hs, hp, hx]
def row (k : Nat) : Rw := rowI.getD k Rw.zero
def rowGood (r : Rw) : Bool := decide (r.s < 256 ∧ r.c < 18446744073709551616 ∧ r.f < 18446744073709551616 ∧ r.o < 18446744073709551616 ∧ fixW r < 4294967296 ∧ fixM r < 4294967296)
theorem rows_good : rowI.all rowGood = true := by kernel_rfl
theorem row_good {k : Nat} (h : k < 69) : rwOk (row k) ∧ fixW (row k) < 4294967296 ∧ fixM (row k) < 4294967296 := by
  have hm : row k ∈ rowI := by
    unfold row
    rw [List.getD_eq_getElem?_getD, List.getElem?_eq_getElem (by rw [rowI_len]; exact h)]
    exact List.getElem_mem _
  have := List.all_eq_true.1 rows_good _ hm
  unfold rowGood at this
  rw [decide_eq_true_eq] at this
  obtain ⟨a, b, c, d, e, f⟩ := this
  exact ⟨⟨a, b, c, d⟩, e, f⟩
theorem row_ix (i : Nat) (h : i < 69) (w : World) : (Instr.index 160 (.agg (rwsC rowI).toArray) (.int .i64 (i : Nat))).run Tryz.prog w = .ok (.agg (rwC (row i)).toArray) w := by
  have := run_indexN (P := Tryz.prog) (t := 160) (n := 69) (m := 5) Tryz.underlying160 Tryz.isAgg101 Tryz.sizeOf101 (rwsC rowI) .i64 (i : Nat) w (by omega)
  rw [this, Int.toNat_natCast, rws_at rowI i (by rw [rowI_len]; exact h)]
  rfl
theorem pcs_ok {s : Nat} (hs : s = 73 ∨ s = 83) : ∀ p ∈ pcsOf s, pcOk p := by
  rcases hs with rfl | rfl
  · intro p hp
    simp [pcsOf] at hp
    subst hp
    exact ⟨by decide, by decide, by decide, by decide⟩
  · intro p hp
    simp [pcsOf] at hp
    rcases hp with rfl | rfl
    · exact ⟨by decide, by decide, by decide, by decide⟩
    · exact ⟨by decide, by decide, by decide, by decide⟩
theorem pcs_lt {s W : Nat} (hs : s = 73 ∨ s = 83) : ∀ k p, (pcsOf s)[k]? = some p → ((pcsOf s).take k).foldl (pcN W) 0 < 2 ^ p.1 := by
  rcases hs with rfl | rfl
  · intro k p hp
    have e : pcsOf 73 = [(0, 12, 20)] := rfl
    rw [e] at hp ⊢
    match k, hp with
    | 0, hp => exact Nat.two_pow_pos _
    | k + 1, hp => simp at hp
  · intro k p hp
    have e : pcsOf 83 = [(0, 5, 7), (5, 7, 25)] := rfl
    rw [e] at hp ⊢
    match k, hp with
    | 0, hp => exact Nat.two_pow_pos _
    | 1, hp =>
      rw [List.getElem?_cons_succ, List.getElem?_cons_zero, Option.some.injEq] at hp
      rw [← hp, List.take_succ_cons, List.take_zero, List.foldl_cons, List.foldl_nil]
      exact put_lt (b := 5) (Nat.two_pow_pos _) (by decide)
    | k + 2, hp => simp at hp
set_option maxHeartbeats 1000000 in
theorem iDecode_spec {w : World} {W k : Nat} (hW : W < 4294967296) (hk : k < 69) (hne : ∀ j, j < k → W &&& fixM (row j) ≠ fixW (row j)) (heq : W &&& fixM (row k) = fixW (row k)) (hs : (row k).s = 73 ∨ (row k).s = 83) (hlt : (pcsOf (row k).s).foldl (pcN W) 0 < 2 ^ 11) {K : Value → World → Prop}
    (hK : ∀ w', Ext [] w w' → K (.tuple #[.agg (inC (ofW W k (row k).s)).toArray, .bool true]) w') : callsK Tryz.prog 31 #[.int .u32 (W : Nat)] w K := by
  apply F31_ok
  unfold F31
  simp (disch := first | assumption | omega | (simp only [szR, rwC_len, rwC_all, rwsC_len, rwsC_all, ptC_len, ptC_all, pcC_len, pcC_all, loC_len, loC_all, inC_len, inC_all] <;> omega) | rfl | decide) only [gen0, gen1, gen2, rulesC, rulesX, litR, bolR, Nat.reduceAdd, Nat.reduceLeDiff, numR, memR, valR, heapR, updR, intR, decR, extR, slR, segR, thenR, pnR, Int.reduceToNat, Int.reduceAdd, Int.reduceSub, Int.reduceLT, Int.reduceLE, Nat.reduceSub, Nat.reduceMul, Nat.reduceEqDiff]
  have hx0 : Ext [] w (w.alloc (.cells [.int .i64 0, .int .i64 0, .int .i64 0, .int .i64 0, .int .i64 0].toArray 49)) := by (repeat first | assumption | exact Ext.refl | apply Ext.alloc | apply Ext.drew | (refine Ext.updN ?_ ?_; (focus first | omega | (simp only [szR] <;> omega))) | (refine Ext.updI ?_ ?_; (focus (simp; done))))
  refine rows_spec fun w1 hx1 => ?_
  have hxa := hx0.trans hx1 (by simp)
  have h2 := hx1.at (b := w.heap.size) (o := .cells [.int .i64 0, .int .i64 0, .int .i64 0, .int .i64 0, .int .i64 0].toArray 49 (0, 0)) (by first | with_reducible rfl | assumption | (simp (disch := first | assumption | omega | (simp only [szR, rwC_len, rwC_all, rwsC_len, rwsC_all, ptC_len, ptC_all, pcC_len, pcC_all, loC_len, loC_all, inC_len, inC_all] <;> omega) | rfl | decide) only [gen0, gen1, gen2, rulesC, rulesX, litR, bolR, Nat.reduceAdd, Nat.reduceLeDiff, numR, memR, valR, heapR, updR, intR, decR, extR, slR, segR, thenR, pnR, Int.reduceToNat, Int.reduceAdd, Int.reduceSub, Int.reduceLT, Int.reduceLE, Nat.reduceSub, Nat.reduceMul, Nat.reduceEqDiff] <;> rfl)) (by simp)
  refine loopT.intro (fun st w' => ∃ (j : Nat), j ≤ k ∧ st = [.int .i64 (j : Nat)] ∧ w'.heap[w.heap.size]? = some (.cells [.int .i64 0, .int .i64 0, .int .i64 0, .int .i64 0, .int .i64 0].toArray 49 (0, 0)) ∧ Ext [] w w')
    (fun st _ => match st with
      | [.int _ z] => k - z.toNat
      | _ => 0) ⟨0, Nat.zero_le _, rfl, h2, hxa⟩ ?_
  rintro st w' ⟨j, hj, rfl, h3, hx'⟩ _
  have l3 := lt_of_at h3
  obtain ⟨ok, gW, gM⟩ := row_good (k := j) (by omega)
  have hix := row_ix j (by omega)
  have hj69 : j < 69 := by omega
  simp (disch := first | assumption | omega | (simp only [szR, rwC_len, rwC_all, rwsC_len, rwsC_all, ptC_len, ptC_all, pcC_len, pcC_all, loC_len, loC_all, inC_len, inC_all] <;> omega) | rfl | decide) only [gen0, gen1, gen2, rulesC, rulesX, litR, bolR, Nat.reduceAdd, Nat.reduceLeDiff, numR, memR, valR, heapR, updR, intR, decR, extR, slR, segR, thenR, pnR, Int.reduceToNat, Int.reduceAdd, Int.reduceSub, Int.reduceLT, Int.reduceLE, Nat.reduceSub, Nat.reduceMul, Nat.reduceEqDiff, hix, rw_over, rw_put]
  have hx4 : Ext [] w' (w'.alloc (.cells (rwC (row j)).toArray 101)) := by (repeat first | assumption | exact Ext.refl | apply Ext.alloc | apply Ext.drew | (refine Ext.updN ?_ ?_; (focus first | omega | (simp only [szR] <;> omega))) | (refine Ext.updI ?_ ?_; (focus (simp; done))))
  refine fixed_spec ok fun w2 hx5 => ?_
  have hx6 := hx4.trans hx5 (by simp)
  have hx7 := hx'.trans hx6 (by simp)
  have k3 := hx6.at h3 (by simp)
  have kr := hx5.at (b := w'.heap.size) (o := .cells (rwC (row j)).toArray 101 (0, 0)) (by first | with_reducible rfl | assumption | (simp (disch := first | assumption | omega | (simp only [szR, rwC_len, rwC_all, rwsC_len, rwsC_all, ptC_len, ptC_all, pcC_len, pcC_all, loC_len, loC_all, inC_len, inC_all] <;> omega) | rfl | decide) only [gen0, gen1, gen2, rulesC, rulesX, litR, bolR, Nat.reduceAdd, Nat.reduceLeDiff, numR, memR, valR, heapR, updR, intR, decR, extR, slR, segR, thenR, pnR, Int.reduceToNat, Int.reduceAdd, Int.reduceSub, Int.reduceLT, Int.reduceLE, Nat.reduceSub, Nat.reduceMul, Nat.reduceEqDiff] <;> rfl)) (by simp)
  have hand : bitI .and .u64 (W : Int) (fixM (row j) : Nat) = ((W &&& fixM (row j) : Nat) : Int) := by
    rw [and_u64 (by omega) (by omega)]
    simp
  have hal : W &&& fixM (row j) ≤ W := Nat.and_le_left
  by_cases hjk : j < k
  · have hn := hne j hjk
    have hn2 : ((W &&& fixM (row j) : Nat) : Int) ≠ ((fixW (row j) : Nat) : Int) := by omega
    simp (disch := first | assumption | omega | (simp only [szR, rwC_len, rwC_all, rwsC_len, rwsC_all, ptC_len, ptC_all, pcC_len, pcC_all, loC_len, loC_all, inC_len, inC_all] <;> omega) | rfl | decide) only [gen0, gen1, gen2, rulesC, rulesX, litR, bolR, Nat.reduceAdd, Nat.reduceLeDiff, numR, memR, valR, heapR, updR, intR, decR, extR, slR, segR, thenR, pnR, Int.reduceToNat, Int.reduceAdd, Int.reduceSub, Int.reduceLT, Int.reduceLE, Nat.reduceSub, Nat.reduceMul, Nat.reduceEqDiff, hand]
    exact ⟨⟨j + 1, by omega, rfl, k3, hx7⟩, by first | omega | (simp <;> omega)⟩
  · obtain rfl : j = k := by omega
    have hn2 : ((W &&& fixM (row j) : Nat) : Int) = ((fixW (row j) : Nat) : Int) := by rw [heq]
    simp (disch := first | assumption | omega | (simp only [szR, rwC_len, rwC_all, rwsC_len, rwsC_all, ptC_len, ptC_all, pcC_len, pcC_all, loC_len, loC_all, inC_len, inC_all] <;> omega) | rfl | decide) only [gen0, gen1, gen2, rulesC, rulesX, litR, bolR, Nat.reduceAdd, Nat.reduceLeDiff, numR, memR, valR, heapR, updR, intR, decR, extR, slR, segR, thenR, pnR, Int.reduceToNat, Int.reduceAdd, Int.reduceSub, Int.reduceLT, Int.reduceLE, Nat.reduceSub, Nat.reduceMul, Nat.reduceEqDiff, hand, hn2]
    have r1 : (rwC (row j))[1]? = some (.int .u8 ((row j).s : Nat)) := rfl
    simp (disch := first | assumption | omega | (simp only [szR, rwC_len, rwC_all, rwsC_len, rwsC_all, ptC_len, ptC_all, pcC_len, pcC_all, loC_len, loC_all, inC_len, inC_all] <;> omega) | rfl | decide) only [gen0, gen1, gen2, rulesC, rulesX, litR, bolR, Nat.reduceAdd, Nat.reduceLeDiff, numR, memR, valR, heapR, updR, intR, decR, extR, slR, segR, thenR, pnR, Int.reduceToNat, Int.reduceAdd, Int.reduceSub, Int.reduceLT, Int.reduceLE, Nat.reduceSub, Nat.reduceMul, Nat.reduceEqDiff, kr, r1]
    have lr := lt_of_at kr
    have l3' := lt_of_at k3
    have hofW : ofW W j (row j).s = ⟨j + 1, if (row j).s = 73 then W / 2 ^ 7 % 2 ^ 5 else 0, W / 2 ^ 15 % 2 ^ 5, if (row j).s = 83 then W / 2 ^ 20 % 2 ^ 5 else 0, (pcsOf (row j).s).foldl (pcN W) 0⟩ := rfl
    rw [hofW] at hK
    refine laid_spec hs fun v w3 hv hsl hx8 => ?_
    obtain ⟨a, n, c, rfl⟩ := hsl
    simp (disch := first | assumption | omega | (simp only [szR, rwC_len, rwC_all, rwsC_len, rwsC_all, ptC_len, ptC_all, pcC_len, pcC_all, loC_len, loC_all, inC_len, inC_all] <;> omega) | rfl | decide) only [gen0, gen1, gen2, rulesC, rulesX, litR, bolR, Nat.reduceAdd, Nat.reduceLeDiff, numR, memR, valR, heapR, updR, intR, decR, extR, slR, segR, thenR, pnR, Int.reduceToNat, Int.reduceAdd, Int.reduceSub, Int.reduceLT, Int.reduceLE, Nat.reduceSub, Nat.reduceMul, Nat.reduceEqDiff]
    refine read_spec hv (pcs_ok hs) (by omega) (pcs_lt hs) (by decide) (by simpa using hlt) fun w4 hx9 => ?_
    have p11 : (2 : Nat) ^ 11 = 2048 := by decide
    rw [p11] at hlt
    generalize (pcsOf (row j).s).foldl (pcN W) 0 = im at *
    have hb : ∀ (x y : Int) (w : World), (Instr.build 49 #[(0, .int .i64 x), (4, .int .i64 y)]).run Tryz.prog w = .ok (.agg [.int .i64 x, .int .i64 0, .int .i64 0, .int .i64 0, .int .i64 y].toArray) w := fun x y w => run_build w 49 _ _ (by kernel_rfl)
    have hb2 : ∀ (w : World), (Instr.build 49 #[(0, .int .i64 ((j : Nat) + 1 : Int)), (4, .int .i64 (im : Nat))]).run Tryz.prog w = .ok (.agg (inC ⟨j + 1, 0, 0, 0, im⟩).toArray) w := fun w => hb _ _ w
    have hxb := hx8.trans hx9 (by simp)
    have m3 := hxb.at k3 (by simp)
    have mr := hxb.at kr (by simp)
    have lm3 := lt_of_at m3
    have lmr := lt_of_at mr
    have z1 : ∀ i : In, splice [.int .i64 0, .int .i64 0, .int .i64 0, .int .i64 0, .int .i64 0] 0 (inC i) = inC i := fun _ => rfl
    have z2 : ∀ i : In, inC i ++ List.drop (inC i).length [.int .i64 0, .int .i64 0, .int .i64 0, .int .i64 0, .int .i64 0] = inC i := fun _ => by simp [inC]
    simp (disch := first | assumption | omega | (simp only [szR, rwC_len, rwC_all, rwsC_len, rwsC_all, ptC_len, ptC_all, pcC_len, pcC_all, loC_len, loC_all, inC_len, inC_all] <;> omega) | rfl | decide) only [gen0, gen1, gen2, rulesC, rulesX, litR, bolR, Nat.reduceAdd, Nat.reduceLeDiff, numR, memR, valR, heapR, updR, intR, decR, extR, slR, segR, thenR, pnR, Int.reduceToNat, Int.reduceAdd, Int.reduceSub, Int.reduceLT, Int.reduceLE, Nat.reduceSub, Nat.reduceMul, Nat.reduceEqDiff, hb2, z1, z2, mr, r1]
    refine has_spec hs ?_
    have hxc : Ext [] w (w4.alloc (.cells (inC ⟨j + 1, 0, 0, 0, im⟩).toArray 49)) := by
      have := hx7.trans hxb (by simp)
      (repeat first | assumption | exact Ext.refl | apply Ext.alloc | apply Ext.drew | (refine Ext.updN ?_ ?_; (focus first | omega | (simp only [szR] <;> omega))) | (refine Ext.updI ?_ ?_; (focus (simp; done))))
    have q3 : (w4.alloc (.cells (inC ⟨j + 1, 0, 0, 0, im⟩).toArray 49)).heap[w.heap.size]? = some (.cells [.int .i64 0, .int .i64 0, .int .i64 0, .int .i64 0, .int .i64 0].toArray 49 (0, 0)) := (by first | with_reducible rfl | assumption | (simp (disch := first | assumption | omega | (simp only [szR, rwC_len, rwC_all, rwsC_len, rwsC_all, ptC_len, ptC_all, pcC_len, pcC_all, loC_len, loC_all, inC_len, inC_all] <;> omega) | rfl | decide) only [gen0, gen1, gen2, rulesC, rulesX, litR, bolR, Nat.reduceAdd, Nat.reduceLeDiff, numR, memR, valR, heapR, updR, intR, decR, extR, slR, segR, thenR, pnR, Int.reduceToNat, Int.reduceAdd, Int.reduceSub, Int.reduceLT, Int.reduceLE, Nat.reduceSub, Nat.reduceMul, Nat.reduceEqDiff, m3] <;> rfl))
    have q9 : (w4.alloc (.cells (inC ⟨j + 1, 0, 0, 0, im⟩).toArray 49)).heap[w4.heap.size]? = some (.cells (inC ⟨j + 1, 0, 0, 0, im⟩).toArray 49 (0, 0)) := (by first | with_reducible rfl | assumption | (simp (disch := first | assumption | omega | (simp only [szR, rwC_len, rwC_all, rwsC_len, rwsC_all, ptC_len, ptC_all, pcC_len, pcC_all, loC_len, loC_all, inC_len, inC_all] <;> omega) | rfl | decide) only [gen0, gen1, gen2, rulesC, rulesX, litR, bolR, Nat.reduceAdd, Nat.reduceLeDiff, numR, memR, valR, heapR, updR, intR, decR, extR, slR, segR, thenR, pnR, Int.reduceToNat, Int.reduceAdd, Int.reduceSub, Int.reduceLT, Int.reduceLE, Nat.reduceSub, Nat.reduceMul, Nat.reduceEqDiff] <;> rfl))
    have hw4 : w.heap.size < w4.heap.size := by omega
    obtain ⟨b9, hb9⟩ : ∃ b9, b9 = w4.heap.size := ⟨_, rfl⟩
    rw [← hb9] at q9 hw4 ⊢
    simp (disch := first | assumption | omega | (simp only [szR, rwC_len, rwC_all, rwsC_len, rwsC_all, ptC_len, ptC_all, pcC_len, pcC_all, loC_len, loC_all, inC_len, inC_all] <;> omega) | rfl | decide) only [gen0, gen1, gen2, rulesC, rulesX, litR, bolR, Nat.reduceAdd, Nat.reduceLeDiff, numR, memR, valR, heapR, updR, intR, decR, extR, slR, segR, thenR, pnR, Int.reduceToNat, Int.reduceAdd, Int.reduceSub, Int.reduceLT, Int.reduceLE, Nat.reduceSub, Nat.reduceMul, Nat.reduceEqDiff]
    generalize (w4.alloc (.cells (inC ⟨j + 1, 0, 0, 0, im⟩).toArray 49)) = w5 at *
    refine joinL.intro fun J2 hJ2 => ?_
    have s1 : ∀ (o r1 r2 x : Nat) (v : Nat), (inC ⟨o, 0, r1, r2, x⟩).set 1 (.int .i64 (v : Nat)) = inC ⟨o, v, r1, r2, x⟩ := fun _ _ _ _ _ => rfl
    have s2 : ∀ (o rd r2 x : Nat) (v : Nat), (inC ⟨o, rd, 0, r2, x⟩).set 2 (.int .i64 (v : Nat)) = inC ⟨o, rd, v, r2, x⟩ := fun _ _ _ _ _ => rfl
    have s3 : ∀ (o rd r1 x : Nat) (v : Nat), (inC ⟨o, rd, r1, 0, x⟩).set 3 (.int .i64 (v : Nat)) = inC ⟨o, rd, r1, v, x⟩ := fun _ _ _ _ _ => rfl
    have g2 : ∀ (w6 : World) (rd : Nat), rd = (if (row j).s = 73 then W / 2 ^ 7 % 2 ^ 5 else 0) → w6.heap[b9]? = some (.cells (inC ⟨j + 1, rd, 0, 0, im⟩).toArray 49 (0, 0)) → w6.heap[w.heap.size]? = some (.cells [.int .i64 0, .int .i64 0, .int .i64 0, .int .i64 0, .int .i64 0].toArray 49 (0, 0)) → Ext [] w w6 → J2 [] w6 := by
      intro w6 rd hrd a1 a2 a3
      rw [← hrd] at hK
      apply hJ2
      intro _
      refine joinL.intro fun J4 hJ4 => ?_
      have g4 : ∀ (w7 : World), w7.heap[b9]? = some (.cells (inC ⟨j + 1, rd, W / 2 ^ 15 % 2 ^ 5, 0, im⟩).toArray 49 (0, 0)) → w7.heap[w.heap.size]? = some (.cells [.int .i64 0, .int .i64 0, .int .i64 0, .int .i64 0, .int .i64 0].toArray 49 (0, 0)) → Ext [] w w7 → J4 [] w7 := by
        intro w7 c1 c2 c3
        apply hJ4
        intro _
        refine joinL.intro fun J6 hJ6 => ?_
        have g6 : ∀ (w8 : World) (r2 : Nat), r2 = (if (row j).s = 83 then W / 2 ^ 20 % 2 ^ 5 else 0) → w8.heap[b9]? = some (.cells (inC ⟨j + 1, rd, W / 2 ^ 15 % 2 ^ 5, r2, im⟩).toArray 49 (0, 0)) → w8.heap[w.heap.size]? = some (.cells [.int .i64 0, .int .i64 0, .int .i64 0, .int .i64 0, .int .i64 0].toArray 49 (0, 0)) → Ext [] w w8 → J6 [] w8 := by
          intro w8 r2 hr2 d1 d2 d3
          rw [← hr2] at hK
          apply hJ6
          intro _
          have ld1 := lt_of_at d1
          have ld2 := lt_of_at d2
          simp (disch := first | assumption | omega | (simp only [szR, rwC_len, rwC_all, rwsC_len, rwsC_all, ptC_len, ptC_all, pcC_len, pcC_all, loC_len, loC_all, inC_len, inC_all] <;> omega) | rfl | decide) only [gen0, gen1, gen2, rulesC, rulesX, litR, bolR, Nat.reduceAdd, Nat.reduceLeDiff, numR, memR, valR, heapR, updR, intR, decR, extR, slR, segR, thenR, pnR, Int.reduceToNat, Int.reduceAdd, Int.reduceSub, Int.reduceLT, Int.reduceLE, Nat.reduceSub, Nat.reduceMul, Nat.reduceEqDiff, d1, d2, inC_sub, z1, z2]
          exact hK _ (by (repeat first | assumption | exact Ext.refl | apply Ext.alloc | apply Ext.drew | (refine Ext.updN ?_ ?_; (focus first | omega | (simp only [szR] <;> omega))) | (refine Ext.updI ?_ ?_; (focus (simp; done)))))
        by_cases h83 : (row j).s = 83
        · have : W / 2 ^ 20 % 2 ^ 5 < 2 ^ 5 := Nat.mod_lt _ (Nat.two_pow_pos _)
          have p5 : (2 : Nat) ^ 5 = 32 := by decide
          refine .inl ⟨by rw [decide_eq_true h83], ?_⟩
          simp (disch := first | assumption | omega | (simp only [szR, rwC_len, rwC_all, rwsC_len, rwsC_all, ptC_len, ptC_all, pcC_len, pcC_all, loC_len, loC_all, inC_len, inC_all] <;> omega) | rfl | decide) only [gen0, gen1, gen2, rulesC, rulesX, litR, bolR, Nat.reduceAdd, Nat.reduceLeDiff, numR, memR, valR, heapR, updR, intR, decR, extR, slR, segR, thenR, pnR, Int.reduceToNat, Int.reduceAdd, Int.reduceSub, Int.reduceLT, Int.reduceLE, Nat.reduceSub, Nat.reduceMul, Nat.reduceEqDiff]
          refine fGet_spec (by decide) (by decide) (by decide) (by omega) fun w8 hx10 => ?_
          have e20 : ((20 : Int).toNat) = 20 := rfl
          have e5 : ((5 : Int).toNat) = 5 := rfl
          rw [e20, e5]
          have d1 := hx10.at c1 (by simp)
          have d2 := hx10.at c2 (by simp)
          have ld1 := lt_of_at d1
          have hr : W / 2 ^ 20 % 2 ^ 5 = (if (row j).s = 83 then W / 2 ^ 20 % 2 ^ 5 else 0) := (if_pos h83).symm
          generalize W / 2 ^ 20 % 2 ^ 5 = y at *
          have hne9 : w.heap.size ≠ b9 := by omega
          simp (disch := first | assumption | omega | (simp only [szR, rwC_len, rwC_all, rwsC_len, rwsC_all, ptC_len, ptC_all, pcC_len, pcC_all, loC_len, loC_all, inC_len, inC_all] <;> omega) | rfl | decide) only [gen0, gen1, gen2, rulesC, rulesX, litR, bolR, Nat.reduceAdd, Nat.reduceLeDiff, numR, memR, valR, heapR, updR, intR, decR, extR, slR, segR, thenR, pnR, Int.reduceToNat, Int.reduceAdd, Int.reduceSub, Int.reduceLT, Int.reduceLE, Nat.reduceSub, Nat.reduceMul, Nat.reduceEqDiff, d1, s3]
          have hx11 : Ext [] w (World.upd w8 b9 (inC ⟨j + 1, rd, W / 2 ^ 15 % 2 ^ 5, y, im⟩)) := by
            have := c3.trans hx10 (by simp)
            have hbw : w.heap.size ≤ b9 := by omega
            exact this.upd _ (.inr hbw)
          exact g6 _ y hr (upd_at d1) ((upd_ne hne9).trans d2) hx11
        · refine .inr ⟨by rw [decide_eq_false h83], ?_⟩
          exact g6 w7 0 (if_neg h83).symm c1 c2 c3
      have : W / 2 ^ 15 % 2 ^ 5 < 2 ^ 5 := Nat.mod_lt _ (Nat.two_pow_pos _)
      have p5 : (2 : Nat) ^ 5 = 32 := by decide
      refine .inl ⟨rfl, ?_⟩
      simp (disch := first | assumption | omega | (simp only [szR, rwC_len, rwC_all, rwsC_len, rwsC_all, ptC_len, ptC_all, pcC_len, pcC_all, loC_len, loC_all, inC_len, inC_all] <;> omega) | rfl | decide) only [gen0, gen1, gen2, rulesC, rulesX, litR, bolR, Nat.reduceAdd, Nat.reduceLeDiff, numR, memR, valR, heapR, updR, intR, decR, extR, slR, segR, thenR, pnR, Int.reduceToNat, Int.reduceAdd, Int.reduceSub, Int.reduceLT, Int.reduceLE, Nat.reduceSub, Nat.reduceMul, Nat.reduceEqDiff]
      refine fGet_spec (by decide) (by decide) (by decide) (by omega) fun w8 hx10 => ?_
      have e15 : ((15 : Int).toNat) = 15 := rfl
      have e5 : ((5 : Int).toNat) = 5 := rfl
      rw [e15, e5]
      have d1 := hx10.at a1 (by simp)
      have d2 := hx10.at a2 (by simp)
      have ld1 := lt_of_at d1
      generalize W / 2 ^ 15 % 2 ^ 5 = y at *
      have hne9 : w.heap.size ≠ b9 := by omega
      simp (disch := first | assumption | omega | (simp only [szR, rwC_len, rwC_all, rwsC_len, rwsC_all, ptC_len, ptC_all, pcC_len, pcC_all, loC_len, loC_all, inC_len, inC_all] <;> omega) | rfl | decide) only [gen0, gen1, gen2, rulesC, rulesX, litR, bolR, Nat.reduceAdd, Nat.reduceLeDiff, numR, memR, valR, heapR, updR, intR, decR, extR, slR, segR, thenR, pnR, Int.reduceToNat, Int.reduceAdd, Int.reduceSub, Int.reduceLT, Int.reduceLE, Nat.reduceSub, Nat.reduceMul, Nat.reduceEqDiff, d1, s2]
      have hx11 : Ext [] w (World.upd w8 b9 (inC ⟨j + 1, rd, y, 0, im⟩)) := by
        have := a3.trans hx10 (by simp)
        have hbw : w.heap.size ≤ b9 := by omega
        exact this.upd _ (.inr hbw)
      exact g4 _ (upd_at d1) ((upd_ne hne9).trans d2) hx11
    by_cases h73 : (row j).s = 73
    · have : W / 2 ^ 7 % 2 ^ 5 < 2 ^ 5 := Nat.mod_lt _ (Nat.two_pow_pos _)
      have p5 : (2 : Nat) ^ 5 = 32 := by decide
      refine .inl ⟨by rw [decide_eq_true h73], ?_⟩
      simp (disch := first | assumption | omega | (simp only [szR, rwC_len, rwC_all, rwsC_len, rwsC_all, ptC_len, ptC_all, pcC_len, pcC_all, loC_len, loC_all, inC_len, inC_all] <;> omega) | rfl | decide) only [gen0, gen1, gen2, rulesC, rulesX, litR, bolR, Nat.reduceAdd, Nat.reduceLeDiff, numR, memR, valR, heapR, updR, intR, decR, extR, slR, segR, thenR, pnR, Int.reduceToNat, Int.reduceAdd, Int.reduceSub, Int.reduceLT, Int.reduceLE, Nat.reduceSub, Nat.reduceMul, Nat.reduceEqDiff]
      refine fGet_spec (by decide) (by decide) (by decide) (by omega) fun w8 hx10 => ?_
      have e7 : ((7 : Int).toNat) = 7 := rfl
      have e5 : ((5 : Int).toNat) = 5 := rfl
      rw [e7, e5]
      have d1 := hx10.at q9 (by simp)
      have d2 := hx10.at q3 (by simp)
      have ld1 := lt_of_at d1
      have hr : W / 2 ^ 7 % 2 ^ 5 = (if (row j).s = 73 then W / 2 ^ 7 % 2 ^ 5 else 0) := (if_pos h73).symm
      generalize W / 2 ^ 7 % 2 ^ 5 = y at *
      have hne9 : w.heap.size ≠ b9 := by omega
      simp (disch := first | assumption | omega | (simp only [szR, rwC_len, rwC_all, rwsC_len, rwsC_all, ptC_len, ptC_all, pcC_len, pcC_all, loC_len, loC_all, inC_len, inC_all] <;> omega) | rfl | decide) only [gen0, gen1, gen2, rulesC, rulesX, litR, bolR, Nat.reduceAdd, Nat.reduceLeDiff, numR, memR, valR, heapR, updR, intR, decR, extR, slR, segR, thenR, pnR, Int.reduceToNat, Int.reduceAdd, Int.reduceSub, Int.reduceLT, Int.reduceLE, Nat.reduceSub, Nat.reduceMul, Nat.reduceEqDiff, d1, s1]
      have hx11 : Ext [] w (World.upd w8 b9 (inC ⟨j + 1, y, 0, 0, im⟩)) := by
        have := hxc.trans hx10 (by simp)
        have hbw : w.heap.size ≤ b9 := by omega
        exact this.upd _ (.inr hbw)
      exact g2 _ y hr (upd_at d1) ((upd_ne hne9).trans d2) hx11
    · refine .inr ⟨by rw [decide_eq_false h73], ?_⟩
      exact g2 w5 0 (if_neg h73).symm q9 q3 hxc
end Go.Proofs.YtplfniijbeinmaaGreat
