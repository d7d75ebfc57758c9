/- The instruction of a word, whatever it is; conditions: those of each theorem. -/
import Derived.Test.YtobkjnmdbkieeaaDoorAI4
namespace Go.Proofs.YtobkjnmdbkieeaaDoor
open Go.Fx
set_option maxRecDepth 100000
set_option linter.unusedSimpArgs false
set_option linter.unusedVariables false
/-- the instruction of a word whose row is k. -/
def ofK (W k : Nat) : IZ := let s := (row k).s
  ⟨(k : Int) + 1, if (hasS s).1 then ((W / 2 ^ 7 % 2 ^ 5 : Nat) : Int) else 0, if (hasS s).2.1 then ((W / 2 ^ 15 % 2 ^ 5 : Nat) : Int) else 0, if (hasS s).2.2 then ((W / 2 ^ 20 % 2 ^ 5 : Nat) : Int) else 0, readL (laidS s).1 (laidS s).2.1 (laidS s).2.2.1 W⟩
def decGo (W : Nat) : Nat → Nat → IZ × Bool
  | 0, _ => (⟨0, 0, 0, 0, 0⟩, false)
  | f + 1, k => if W &&& fixM (row k) = fixW (row k) then (ofK W k, true) else decGo W f (k + 1)
def dcdF (W : Nat) : IZ × Bool := decGo W 69 0
set_option maxHeartbeats 1000000 in
theorem Decode_spec {w : World} {W : Nat} (hW : W < 4294967296) {K : Value → World → Prop} (hK : ∀ w', Ext [] w w' → K (.tuple #[.agg (izC (dcdF W).1).toArray, .bool (dcdF W).2]) w') : callsK Tryd.prog 11 #[.int .u32 (W : Nat)] w K := by
  apply F11_ok
  unfold F11
  have hz0 : izC ⟨0, 0, 0, 0, 0⟩ = [.int .i64 0, .int .i64 0, .int .i64 0, .int .i64 0, .int .i64 0] := rfl
  simp (disch := first | assumption | omega | (simp only [szR, rwC_len, rwC_all, rwsC_len, rwsC_all, ptC_len, ptC_all, pcC_len, pcC_all, loC_len, loC_all, izC_len, izC_all] <;> omega) | rfl | decide) only [gen0, gen1, gen2, rulesC, rulesX, litR, bolR, Nat.reduceAdd, Nat.reduceLeDiff, numR, memR, valR, heapR, updR, intR, decR, extR, slR, segR, thenR, pnR, Int.reduceToNat, Int.reduceAdd, Int.reduceSub, Int.reduceLT, Int.reduceLE, Nat.reduceSub, Nat.reduceMul, Nat.reduceEqDiff]
  have hx0 : Ext [] w (w.alloc (.cells [.int .i64 0, .int .i64 0, .int .i64 0, .int .i64 0, .int .i64 0].toArray 28)) := by (repeat first | assumption | exact Ext.refl | apply Ext.alloc | apply Ext.drew | (refine Ext.updN ?_ ?_; (focus first | omega | (simp only [szR] <;> omega))) | (refine Ext.updI ?_ ?_; (focus (simp; done))))
  have hRW : dcdF W = decGo W 69 0 := rfl
  generalize dcdF W = R at *
  refine rows_spec fun w1 hx1 => ?_
  have hxa := hx0.trans hx1 (by simp)
  have h2 := hx1.at (b := w.heap.size) (o := .cells [.int .i64 0, .int .i64 0, .int .i64 0, .int .i64 0, .int .i64 0].toArray 28 (0, 0)) (by first | with_reducible rfl | assumption | (simp (disch := first | assumption | omega | (simp only [szR, rwC_len, rwC_all, rwsC_len, rwsC_all, ptC_len, ptC_all, pcC_len, pcC_all, loC_len, loC_all, izC_len, izC_all] <;> omega) | rfl | decide) only [gen0, gen1, gen2, rulesC, rulesX, litR, bolR, Nat.reduceAdd, Nat.reduceLeDiff, numR, memR, valR, heapR, updR, intR, decR, extR, slR, segR, thenR, pnR, Int.reduceToNat, Int.reduceAdd, Int.reduceSub, Int.reduceLT, Int.reduceLE, Nat.reduceSub, Nat.reduceMul, Nat.reduceEqDiff] <;> rfl)) (by simp)
  refine loopT.intro (fun st w' => ∃ (j : Nat), j ≤ 69 ∧ st = [.int .i64 (j : Nat)] ∧ R = decGo W (69 - j) j ∧ w'.heap[w.heap.size]? = some (.cells [.int .i64 0, .int .i64 0, .int .i64 0, .int .i64 0, .int .i64 0].toArray 28 (0, 0)) ∧ Ext [] w w')
    (fun st _ => match st with
      | [.int _ z] => 69 - z.toNat
      | _ => 0) ⟨0, Nat.zero_le _, rfl, hRW, h2, hxa⟩ ?_
  rintro st w' ⟨j, hj, rfl, hR, h3, hx'⟩ _
  have l3 := lt_of_at h3
  have z1 : ∀ i : IZ, splice [.int .i64 0, .int .i64 0, .int .i64 0, .int .i64 0, .int .i64 0] 0 (izC i) = izC i := fun _ => rfl
  have z2 : ∀ i : IZ, izC i ++ List.drop (izC i).length [.int .i64 0, .int .i64 0, .int .i64 0, .int .i64 0, .int .i64 0] = izC i := fun _ => by simp [izC]
  by_cases hj69 : j < 69
  · obtain ⟨ok, gW, gM⟩ := row_good (k := j) hj69
    have hix := row_ix j hj69
    have hsh := row_sh hj69
    rw [show 69 - j = (69 - (j + 1)) + 1 by omega, decGo] at hR
    simp (disch := first | assumption | omega | (simp only [szR, rwC_len, rwC_all, rwsC_len, rwsC_all, ptC_len, ptC_all, pcC_len, pcC_all, loC_len, loC_all, izC_len, izC_all] <;> omega) | rfl | decide) only [gen0, gen1, gen2, rulesC, rulesX, litR, bolR, Nat.reduceAdd, Nat.reduceLeDiff, numR, memR, valR, heapR, updR, intR, decR, extR, slR, segR, thenR, pnR, Int.reduceToNat, Int.reduceAdd, Int.reduceSub, Int.reduceLT, Int.reduceLE, Nat.reduceSub, Nat.reduceMul, Nat.reduceEqDiff, hix, rw_over, rw_put]
    have hx4 : Ext [] w' (w'.alloc (.cells (rwC (row j)).toArray 44)) := by (repeat first | assumption | exact Ext.refl | apply Ext.alloc | apply Ext.drew | (refine Ext.updN ?_ ?_; (focus first | omega | (simp only [szR] <;> omega))) | (refine Ext.updI ?_ ?_; (focus (simp; done))))
    refine fixed_spec ok fun w2 hx5 => ?_
    have hx6 := hx4.trans hx5 (by simp)
    have hx7 := hx'.trans hx6 (by simp)
    have k3 := hx6.at h3 (by simp)
    have kr := hx5.at (b := w'.heap.size) (o := .cells (rwC (row j)).toArray 44 (0, 0)) (by first | with_reducible rfl | assumption | (simp (disch := first | assumption | omega | (simp only [szR, rwC_len, rwC_all, rwsC_len, rwsC_all, ptC_len, ptC_all, pcC_len, pcC_all, loC_len, loC_all, izC_len, izC_all] <;> omega) | rfl | decide) only [gen0, gen1, gen2, rulesC, rulesX, litR, bolR, Nat.reduceAdd, Nat.reduceLeDiff, numR, memR, valR, heapR, updR, intR, decR, extR, slR, segR, thenR, pnR, Int.reduceToNat, Int.reduceAdd, Int.reduceSub, Int.reduceLT, Int.reduceLE, Nat.reduceSub, Nat.reduceMul, Nat.reduceEqDiff] <;> rfl)) (by simp)
    have hand : bitI .and .u64 (W : Int) (fixM (row j) : Nat) = ((W &&& fixM (row j) : Nat) : Int) := by
      rw [and_u64 (by omega) (by omega)]
      simp
    have hal : W &&& fixM (row j) ≤ W := Nat.and_le_left
    by_cases hjk : W &&& fixM (row j) = fixW (row j)
    · rw [if_pos hjk] at hR
      have hn2 : ((W &&& fixM (row j) : Nat) : Int) = ((fixW (row j) : Nat) : Int) := by rw [hjk]
      simp (disch := first | assumption | omega | (simp only [szR, rwC_len, rwC_all, rwsC_len, rwsC_all, ptC_len, ptC_all, pcC_len, pcC_all, loC_len, loC_all, izC_len, izC_all] <;> omega) | rfl | decide) only [gen0, gen1, gen2, rulesC, rulesX, litR, bolR, Nat.reduceAdd, Nat.reduceLeDiff, numR, memR, valR, heapR, updR, intR, decR, extR, slR, segR, thenR, pnR, Int.reduceToNat, Int.reduceAdd, Int.reduceSub, Int.reduceLT, Int.reduceLE, Nat.reduceSub, Nat.reduceMul, Nat.reduceEqDiff, hand, hn2]
      have hof : ofK W j = ⟨(j : Int) + 1, if (hasS (row j).s).1 then ((W / 2 ^ 7 % 2 ^ 5 : Nat) : Int) else 0, if (hasS (row j).s).2.1 then ((W / 2 ^ 15 % 2 ^ 5 : Nat) : Int) else 0, if (hasS (row j).s).2.2 then ((W / 2 ^ 20 % 2 ^ 5 : Nat) : Int) else 0, readL (laidS (row j).s).1 (laidS (row j).s).2.1 (laidS (row j).s).2.2.1 W⟩ := rfl
      rw [hR] at hK
      rw [hof] at hK
      clear hR hof
      have hpc := pcs_okA hsh
      obtain ⟨hb0, hb1, hb2, hb3⟩ := laid_bits hsh
      have r1 : (rwC (row j))[1]? = some (.int .u8 ((row j).s : Nat)) := rfl
      simp (disch := first | assumption | omega | (simp only [szR, rwC_len, rwC_all, rwsC_len, rwsC_all, ptC_len, ptC_all, pcC_len, pcC_all, loC_len, loC_all, izC_len, izC_all] <;> omega) | rfl | decide) only [gen0, gen1, gen2, rulesC, rulesX, litR, bolR, Nat.reduceAdd, Nat.reduceLeDiff, numR, memR, valR, heapR, updR, intR, decR, extR, slR, segR, thenR, pnR, Int.reduceToNat, Int.reduceAdd, Int.reduceSub, Int.reduceLT, Int.reduceLE, Nat.reduceSub, Nat.reduceMul, Nat.reduceEqDiff, kr, r1]
      have lr := lt_of_at kr
      have l3' := lt_of_at k3
      generalize (row j).s = s at *
      refine laidG_spec hsh fun a n c w3 hn hv hx8 => ?_
      subst hn
      simp (disch := first | assumption | omega | (simp only [szR, rwC_len, rwC_all, rwsC_len, rwsC_all, ptC_len, ptC_all, pcC_len, pcC_all, loC_len, loC_all, izC_len, izC_all] <;> omega) | rfl | decide) only [gen0, gen1, gen2, rulesC, rulesX, litR, bolR, Nat.reduceAdd, Nat.reduceLeDiff, numR, memR, valR, heapR, updR, intR, decR, extR, slR, segR, thenR, pnR, Int.reduceToNat, Int.reduceAdd, Int.reduceSub, Int.reduceLT, Int.reduceLE, Nat.reduceSub, Nat.reduceMul, Nat.reduceEqDiff]
      refine readG_spec hv hpc (by omega) hb3 fun w4 hx9 => ?_
      generalize readL (laidS s).1 (laidS s).2.1 (laidS s).2.2.1 W = im at *
      have hb : ∀ (x y : Int) (w : World), (Instr.build 28 #[(0, .int .i64 x), (4, .int .i64 y)]).run Tryd.prog w = .ok (.agg [.int .i64 x, .int .i64 0, .int .i64 0, .int .i64 0, .int .i64 y].toArray) w := fun x y w => run_build w 28 _ _ (by kernel_rfl)
      have hbb : ∀ (w : World), (Instr.build 28 #[(0, .int .i64 ((j : Nat) + 1 : Int)), (4, .int .i64 im)]).run Tryd.prog w = .ok (.agg (izC ⟨(j : Int) + 1, 0, 0, 0, im⟩).toArray) w := fun w => hb _ _ w
      have hxb := hx8.trans hx9 (by simp)
      have m3 := hxb.at k3 (by simp)
      have mr := hxb.at kr (by simp)
      have lm3 := lt_of_at m3
      have lmr := lt_of_at mr
      simp (disch := first | assumption | omega | (simp only [szR, rwC_len, rwC_all, rwsC_len, rwsC_all, ptC_len, ptC_all, pcC_len, pcC_all, loC_len, loC_all, izC_len, izC_all] <;> omega) | rfl | decide) only [gen0, gen1, gen2, rulesC, rulesX, litR, bolR, Nat.reduceAdd, Nat.reduceLeDiff, numR, memR, valR, heapR, updR, intR, decR, extR, slR, segR, thenR, pnR, Int.reduceToNat, Int.reduceAdd, Int.reduceSub, Int.reduceLT, Int.reduceLE, Nat.reduceSub, Nat.reduceMul, Nat.reduceEqDiff, hbb, z1, z2, mr, r1]
      refine hasG_spec hsh ?_
      generalize hasS s = h at *
      obtain ⟨t1, t2, t3⟩ := h
      dsimp only at hK ⊢
      have hxc : Ext [] w (w4.alloc (.cells (izC ⟨(j : Int) + 1, 0, 0, 0, im⟩).toArray 28)) := by
        have := hx7.trans hxb (by simp)
        (repeat first | assumption | exact Ext.refl | apply Ext.alloc | apply Ext.drew | (refine Ext.updN ?_ ?_; (focus first | omega | (simp only [szR] <;> omega))) | (refine Ext.updI ?_ ?_; (focus (simp; done))))
      have q3 : (w4.alloc (.cells (izC ⟨(j : Int) + 1, 0, 0, 0, im⟩).toArray 28)).heap[w.heap.size]? = some (.cells [.int .i64 0, .int .i64 0, .int .i64 0, .int .i64 0, .int .i64 0].toArray 28 (0, 0)) := (by first | with_reducible rfl | assumption | (simp (disch := first | assumption | omega | (simp only [szR, rwC_len, rwC_all, rwsC_len, rwsC_all, ptC_len, ptC_all, pcC_len, pcC_all, loC_len, loC_all, izC_len, izC_all] <;> omega) | rfl | decide) only [gen0, gen1, gen2, rulesC, rulesX, litR, bolR, Nat.reduceAdd, Nat.reduceLeDiff, numR, memR, valR, heapR, updR, intR, decR, extR, slR, segR, thenR, pnR, Int.reduceToNat, Int.reduceAdd, Int.reduceSub, Int.reduceLT, Int.reduceLE, Nat.reduceSub, Nat.reduceMul, Nat.reduceEqDiff, m3] <;> rfl))
      have q9 : (w4.alloc (.cells (izC ⟨(j : Int) + 1, 0, 0, 0, im⟩).toArray 28)).heap[w4.heap.size]? = some (.cells (izC ⟨(j : Int) + 1, 0, 0, 0, im⟩).toArray 28 (0, 0)) := (by first | with_reducible rfl | assumption | (simp (disch := first | assumption | omega | (simp only [szR, rwC_len, rwC_all, rwsC_len, rwsC_all, ptC_len, ptC_all, pcC_len, pcC_all, loC_len, loC_all, izC_len, izC_all] <;> omega) | rfl | decide) only [gen0, gen1, gen2, rulesC, rulesX, litR, bolR, Nat.reduceAdd, Nat.reduceLeDiff, numR, memR, valR, heapR, updR, intR, decR, extR, slR, segR, thenR, pnR, Int.reduceToNat, Int.reduceAdd, Int.reduceSub, Int.reduceLT, Int.reduceLE, Nat.reduceSub, Nat.reduceMul, Nat.reduceEqDiff] <;> rfl))
      have hw4 : w.heap.size < w4.heap.size := by omega
      obtain ⟨b9, hb9⟩ : ∃ b9, b9 = w4.heap.size := ⟨_, rfl⟩
      rw [← hb9] at q9 hw4 ⊢
      simp (disch := first | assumption | omega | (simp only [szR, rwC_len, rwC_all, rwsC_len, rwsC_all, ptC_len, ptC_all, pcC_len, pcC_all, loC_len, loC_all, izC_len, izC_all] <;> omega) | rfl | decide) only [gen0, gen1, gen2, rulesC, rulesX, litR, bolR, Nat.reduceAdd, Nat.reduceLeDiff, numR, memR, valR, heapR, updR, intR, decR, extR, slR, segR, thenR, pnR, Int.reduceToNat, Int.reduceAdd, Int.reduceSub, Int.reduceLT, Int.reduceLE, Nat.reduceSub, Nat.reduceMul, Nat.reduceEqDiff]
      generalize (w4.alloc (.cells (izC ⟨(j : Int) + 1, 0, 0, 0, im⟩).toArray 28)) = w5 at *
      have p5 : (2 : Nat) ^ 5 = 32 := by decide
      have e7 : ((7 : Int).toNat) = 7 := rfl
      have e15 : ((15 : Int).toNat) = 15 := rfl
      have e20 : ((20 : Int).toNat) = 20 := rfl
      have e5 : ((5 : Int).toNat) = 5 := rfl
      have hne9 : w.heap.size ≠ b9 := by omega
      have hbw : w.heap.size ≤ b9 := by omega
      have s1 : ∀ (o r1 r2 x v : Int), (izC ⟨o, 0, r1, r2, x⟩).set 1 (.int .i64 v) = izC ⟨o, v, r1, r2, x⟩ := fun _ _ _ _ _ => rfl
      have s2 : ∀ (o rd r2 x v : Int), (izC ⟨o, rd, 0, r2, x⟩).set 2 (.int .i64 v) = izC ⟨o, rd, v, r2, x⟩ := fun _ _ _ _ _ => rfl
      have s3 : ∀ (o rd r1 x v : Int), (izC ⟨o, rd, r1, 0, x⟩).set 3 (.int .i64 v) = izC ⟨o, rd, r1, v, x⟩ := fun _ _ _ _ _ => rfl
      have f1 : W / 2 ^ 7 % 2 ^ 5 < 2 ^ 5 := Nat.mod_lt _ (Nat.two_pow_pos _)
      have f2 : W / 2 ^ 15 % 2 ^ 5 < 2 ^ 5 := Nat.mod_lt _ (Nat.two_pow_pos _)
      have f3 : W / 2 ^ 20 % 2 ^ 5 < 2 ^ 5 := Nat.mod_lt _ (Nat.two_pow_pos _)
      obtain ⟨y1, hy1⟩ : ∃ y, y = W / 2 ^ 7 % 2 ^ 5 := ⟨_, rfl⟩
      obtain ⟨y2, hy2⟩ : ∃ y, y = W / 2 ^ 15 % 2 ^ 5 := ⟨_, rfl⟩
      obtain ⟨y3, hy3⟩ : ∃ y, y = W / 2 ^ 20 % 2 ^ 5 := ⟨_, rfl⟩
      rw [← hy1, ← hy2, ← hy3] at hK
      rw [← hy1, p5] at f1
      rw [← hy2, p5] at f2
      rw [← hy3, p5] at f3
      refine joinL.intro fun J2 hJ2 => ?_
      have g2 : ∀ (w6 : World) (rd : Int), rd = (if t1 = true then (y1 : Int) else 0) → w6.heap[b9]? = some (.cells (izC ⟨(j : Int) + 1, rd, 0, 0, im⟩).toArray 28 (0, 0)) → w6.heap[w.heap.size]? = some (.cells [.int .i64 0, .int .i64 0, .int .i64 0, .int .i64 0, .int .i64 0].toArray 28 (0, 0)) → Ext [] w w6 → J2 [] w6 := by
        intro w6 rd hrd a1 a2 a3
        rw [← hrd] at hK
        apply hJ2
        intro _
        refine joinL.intro fun J4 hJ4 => ?_
        have g4 : ∀ (w7 : World) (rb : Int), rb = (if t2 = true then (y2 : Int) else 0) → w7.heap[b9]? = some (.cells (izC ⟨(j : Int) + 1, rd, rb, 0, im⟩).toArray 28 (0, 0)) → w7.heap[w.heap.size]? = some (.cells [.int .i64 0, .int .i64 0, .int .i64 0, .int .i64 0, .int .i64 0].toArray 28 (0, 0)) → Ext [] w w7 → J4 [] w7 := by
          intro w7 rb hrb c1 c2 c3
          rw [← hrb] at hK
          apply hJ4
          intro _
          refine joinL.intro fun J6 hJ6 => ?_
          have g6 : ∀ (w8 : World) (rc : Int), rc = (if t3 = true then (y3 : Int) else 0) → w8.heap[b9]? = some (.cells (izC ⟨(j : Int) + 1, rd, rb, rc, im⟩).toArray 28 (0, 0)) → w8.heap[w.heap.size]? = some (.cells [.int .i64 0, .int .i64 0, .int .i64 0, .int .i64 0, .int .i64 0].toArray 28 (0, 0)) → Ext [] w w8 → J6 [] w8 := by
            intro w8 rc hrc d1 d2 d3
            rw [← hrc] at hK
            apply hJ6
            intro _
            have ld1 := lt_of_at d1
            have ld2 := lt_of_at d2
            simp (disch := first | assumption | omega | (simp only [szR, rwC_len, rwC_all, rwsC_len, rwsC_all, ptC_len, ptC_all, pcC_len, pcC_all, loC_len, loC_all, izC_len, izC_all] <;> omega) | rfl | decide) only [gen0, gen1, gen2, rulesC, rulesX, litR, bolR, Nat.reduceAdd, Nat.reduceLeDiff, numR, memR, valR, heapR, updR, intR, decR, extR, slR, segR, thenR, pnR, Int.reduceToNat, Int.reduceAdd, Int.reduceSub, Int.reduceLT, Int.reduceLE, Nat.reduceSub, Nat.reduceMul, Nat.reduceEqDiff, d1, d2, izC_sub, z1, z2]
            exact hK _ (by (repeat first | assumption | exact Ext.refl | apply Ext.alloc | apply Ext.drew | (refine Ext.updN ?_ ?_; (focus first | omega | (simp only [szR] <;> omega))) | (refine Ext.updI ?_ ?_; (focus (simp; done)))))
          cases t3 with
          | true =>
            refine .inl ⟨rfl, ?_⟩
            simp (disch := first | assumption | omega | (simp only [szR, rwC_len, rwC_all, rwsC_len, rwsC_all, ptC_len, ptC_all, pcC_len, pcC_all, loC_len, loC_all, izC_len, izC_all] <;> omega) | rfl | decide) only [gen0, gen1, gen2, rulesC, rulesX, litR, bolR, Nat.reduceAdd, Nat.reduceLeDiff, numR, memR, valR, heapR, updR, intR, decR, extR, slR, segR, thenR, pnR, Int.reduceToNat, Int.reduceAdd, Int.reduceSub, Int.reduceLT, Int.reduceLE, Nat.reduceSub, Nat.reduceMul, Nat.reduceEqDiff]
            refine fGet_spec (by decide) (by decide) (by decide) (by omega) fun w8 hx10 => ?_
            rw [e20, e5, ← hy3]
            have d1 := hx10.at c1 (by simp)
            have d2 := hx10.at c2 (by simp)
            have ld1 := lt_of_at d1
            simp (disch := first | assumption | omega | (simp only [szR, rwC_len, rwC_all, rwsC_len, rwsC_all, ptC_len, ptC_all, pcC_len, pcC_all, loC_len, loC_all, izC_len, izC_all] <;> omega) | rfl | decide) only [gen0, gen1, gen2, rulesC, rulesX, litR, bolR, Nat.reduceAdd, Nat.reduceLeDiff, numR, memR, valR, heapR, updR, intR, decR, extR, slR, segR, thenR, pnR, Int.reduceToNat, Int.reduceAdd, Int.reduceSub, Int.reduceLT, Int.reduceLE, Nat.reduceSub, Nat.reduceMul, Nat.reduceEqDiff, d1, s3]
            exact g6 _ y3 rfl (upd_at d1) ((upd_ne hne9).trans d2) ((c3.trans hx10 (by simp)).upd _ (.inr hbw))
          | false =>
            refine .inr ⟨rfl, ?_⟩
            exact g6 w7 0 rfl c1 c2 c3
        cases t2 with
        | true =>
          refine .inl ⟨rfl, ?_⟩
          simp (disch := first | assumption | omega | (simp only [szR, rwC_len, rwC_all, rwsC_len, rwsC_all, ptC_len, ptC_all, pcC_len, pcC_all, loC_len, loC_all, izC_len, izC_all] <;> omega) | rfl | decide) only [gen0, gen1, gen2, rulesC, rulesX, litR, bolR, Nat.reduceAdd, Nat.reduceLeDiff, numR, memR, valR, heapR, updR, intR, decR, extR, slR, segR, thenR, pnR, Int.reduceToNat, Int.reduceAdd, Int.reduceSub, Int.reduceLT, Int.reduceLE, Nat.reduceSub, Nat.reduceMul, Nat.reduceEqDiff]
          refine fGet_spec (by decide) (by decide) (by decide) (by omega) fun w8 hx10 => ?_
          rw [e15, e5, ← hy2]
          have d1 := hx10.at a1 (by simp)
          have d2 := hx10.at a2 (by simp)
          have ld1 := lt_of_at d1
          simp (disch := first | assumption | omega | (simp only [szR, rwC_len, rwC_all, rwsC_len, rwsC_all, ptC_len, ptC_all, pcC_len, pcC_all, loC_len, loC_all, izC_len, izC_all] <;> omega) | rfl | decide) only [gen0, gen1, gen2, rulesC, rulesX, litR, bolR, Nat.reduceAdd, Nat.reduceLeDiff, numR, memR, valR, heapR, updR, intR, decR, extR, slR, segR, thenR, pnR, Int.reduceToNat, Int.reduceAdd, Int.reduceSub, Int.reduceLT, Int.reduceLE, Nat.reduceSub, Nat.reduceMul, Nat.reduceEqDiff, d1, s2]
          exact g4 _ y2 rfl (upd_at d1) ((upd_ne hne9).trans d2) ((a3.trans hx10 (by simp)).upd _ (.inr hbw))
        | false =>
          refine .inr ⟨rfl, ?_⟩
          exact g4 w6 0 rfl a1 a2 a3
      cases t1 with
      | true =>
        refine .inl ⟨rfl, ?_⟩
        simp (disch := first | assumption | omega | (simp only [szR, rwC_len, rwC_all, rwsC_len, rwsC_all, ptC_len, ptC_all, pcC_len, pcC_all, loC_len, loC_all, izC_len, izC_all] <;> omega) | rfl | decide) only [gen0, gen1, gen2, rulesC, rulesX, litR, bolR, Nat.reduceAdd, Nat.reduceLeDiff, numR, memR, valR, heapR, updR, intR, decR, extR, slR, segR, thenR, pnR, Int.reduceToNat, Int.reduceAdd, Int.reduceSub, Int.reduceLT, Int.reduceLE, Nat.reduceSub, Nat.reduceMul, Nat.reduceEqDiff]
        refine fGet_spec (by decide) (by decide) (by decide) (by omega) fun w8 hx10 => ?_
        rw [e7, e5, ← hy1]
        have d1 := hx10.at q9 (by simp)
        have d2 := hx10.at q3 (by simp)
        have ld1 := lt_of_at d1
        simp (disch := first | assumption | omega | (simp only [szR, rwC_len, rwC_all, rwsC_len, rwsC_all, ptC_len, ptC_all, pcC_len, pcC_all, loC_len, loC_all, izC_len, izC_all] <;> omega) | rfl | decide) only [gen0, gen1, gen2, rulesC, rulesX, litR, bolR, Nat.reduceAdd, Nat.reduceLeDiff, numR, memR, valR, heapR, updR, intR, decR, extR, slR, segR, thenR, pnR, Int.reduceToNat, Int.reduceAdd, Int.reduceSub, Int.reduceLT, Int.reduceLE, Nat.reduceSub, Nat.reduceMul, Nat.reduceEqDiff, d1, s1]
        exact g2 _ y1 rfl (upd_at d1) ((upd_ne hne9).trans d2) ((hxc.trans hx10 (by simp)).upd _ (.inr hbw))
      | false =>
        refine .inr ⟨rfl, ?_⟩
        exact g2 w5 0 rfl q9 q3 hxc
    · rw [if_neg hjk] at hR
      have hn2 : ((W &&& fixM (row j) : Nat) : Int) ≠ ((fixW (row j) : Nat) : Int) := by omega
      simp (disch := first | assumption | omega | (simp only [szR, rwC_len, rwC_all, rwsC_len, rwsC_all, ptC_len, ptC_all, pcC_len, pcC_all, loC_len, loC_all, izC_len, izC_all] <;> omega) | rfl | decide) only [gen0, gen1, gen2, rulesC, rulesX, litR, bolR, Nat.reduceAdd, Nat.reduceLeDiff, numR, memR, valR, heapR, updR, intR, decR, extR, slR, segR, thenR, pnR, Int.reduceToNat, Int.reduceAdd, Int.reduceSub, Int.reduceLT, Int.reduceLE, Nat.reduceSub, Nat.reduceMul, Nat.reduceEqDiff, hand]
      exact ⟨⟨j + 1, by omega, rfl, hR, k3, hx7⟩, by first | omega | (simp <;> omega)⟩
  · obtain rfl : j = 69 := by omega
    have hR0 : R = (⟨0, 0, 0, 0, 0⟩, false) := hR
    rw [hR0] at hK
    dsimp only at hK
    rw [hz0] at hK
    simp (disch := first | assumption | omega | (simp only [szR, rwC_len, rwC_all, rwsC_len, rwsC_all, ptC_len, ptC_all, pcC_len, pcC_all, loC_len, loC_all, izC_len, izC_all] <;> omega) | rfl | decide) only [gen0, gen1, gen2, rulesC, rulesX, litR, bolR, Nat.reduceAdd, Nat.reduceLeDiff, numR, memR, valR, heapR, updR, intR, decR, extR, slR, segR, thenR, pnR, Int.reduceToNat, Int.reduceAdd, Int.reduceSub, Int.reduceLT, Int.reduceLE, Nat.reduceSub, Nat.reduceMul, Nat.reduceEqDiff, h3]
    exact hK _ (by (repeat first | assumption | exact Ext.refl | apply Ext.alloc | apply Ext.drew | (refine Ext.updN ?_ ?_; (focus first | omega | (simp only [szR] <;> omega))) | (refine Ext.updI ?_ ?_; (focus (simp; done)))))
end Go.Proofs.YtobkjnmdbkieeaaDoor
