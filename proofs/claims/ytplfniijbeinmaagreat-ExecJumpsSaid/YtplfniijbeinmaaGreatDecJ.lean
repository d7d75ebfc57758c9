/- The instruction of a word, where its number is laid as jal's; conditions: those of each theorem. -/
import Derived.Test.YtplfniijbeinmaaGreatDec3
namespace Go.Proofs.YtplfniijbeinmaaGreat
open Go.Fx
set_option maxRecDepth 100000
set_option linter.unusedSimpArgs false
set_option linter.unusedVariables false
def pcsJ : List (Nat × Nat × Nat) := [(12, 8, 12), (11, 1, 20), (1, 10, 21), (20, 1, 31)]
theorem pcsJ_ok : ∀ p ∈ pcsJ, pcOk p := by
  intro p hp
  simp [pcsJ] at hp
  rcases hp with rfl | rfl | rfl | rfl <;> exact ⟨by decide, by decide, by decide, by decide⟩
theorem rowsP4 {w : World} {E : TypeId} {f : Nat × Nat} {g : Nat} {p q r s : Nat × Nat × Nat} (h : w.heap[g]? = some (.cells (pcC p ++ (pcC q ++ (pcC r ++ pcC s))).toArray E f)) : RowsAt w (.slice (some ⟨g, 0, none⟩) 4 4) 3 ([p, q, r, s].map pcC) :=
  ⟨_, 4, rfl, ⟨Nat.le_refl _, by simp [maxLen]⟩, .inr ⟨g, 0, _, E, f, rfl, h, by simp [pcC_len], fun i r hi => by
    match i, hi with
    | 0, hi => simp at hi; subst hi; simp [sub, pcC]
    | 1, hi => simp at hi; subst hi; simp [sub, pcC]
    | 2, hi => simp at hi; subst hi; simp [sub, pcC]
    | 3, hi => simp at hi; subst hi; simp [sub, pcC]⟩⟩
theorem bsP4 (a b c d : List Value) (h1 : a.length = 3) (h2 : b.length = 3) (h3 : c.length = 3) (h4 : d.length = 3) (w : World) : (Instr.buildSlice 104 4 #[(0, .agg a.toArray), (1, .agg b.toArray), (2, .agg c.toArray), (3, .agg d.toArray)]).run Tryz.prog w = .ok (.slice (some ⟨w.heap.size, 0, none⟩) 4 4) (w.alloc (.cells (a ++ (b ++ (c ++ d))).toArray 169)) := by
  have := run_bs Tryz.underlying104 (e := 169) (size := 3) (by kernel_rfl) [.agg a.toArray, .agg b.toArray, .agg c.toArray, .agg d.toArray] (by simp [Value.cells, h1, h2, h3, h4]) (by simp) w
  simpa [Value.cells, partsFrom] using this
theorem laidJ_spec {w : World} {K : Value → World → Prop} (hK : ∀ v w', RowsAt w' v 3 (pcsJ.map pcC) → (∃ a n c, v = .slice a n c) → Ext [] w w' → K (.agg (loC v 21 true 1).toArray) w') : callsK Tryz.prog 35 #[.int .u8 ((74 : Nat) : Int)] w K := by
  apply F35_ok
  unfold F35
  simp (disch := first | assumption | omega | (simp only [szR, rwC_len, rwC_all, inC_len, inC_all, pcC_len, pcC_all, loC_len, loC_all] <;> omega) | rfl | decide) only [gen0, gen1, gen2, rulesC, rulesX, litR, bolR, Nat.reduceAdd, Nat.reduceLeDiff, numR, memR, valR, heapR, updR, intR, decR, extR, slR, segR, thenR, pnR, Int.reduceToNat, Int.reduceAdd, Int.reduceSub, Int.reduceLT, Int.reduceLE, Nat.reduceSub, Nat.reduceMul, Nat.reduceEqDiff]
  refine joinL.intro fun J0 hJ0 => ?_
  simp (disch := first | assumption | omega | (simp only [szR, rwC_len, rwC_all, inC_len, inC_all, pcC_len, pcC_all, loC_len, loC_all] <;> omega) | rfl | decide) only [gen0, gen1, gen2, rulesC, rulesX, litR, bolR, Nat.reduceAdd, Nat.reduceLeDiff, numR, memR, valR, heapR, updR, intR, decR, extR, slR, segR, thenR, pnR, Int.reduceToNat, Int.reduceAdd, Int.reduceSub, Int.reduceLT, Int.reduceLE, Nat.reduceSub, Nat.reduceMul, Nat.reduceEqDiff]
  apply hJ0
  intro _
  refine .inr ⟨rfl, ?_⟩
  have hbs : ∀ w : World, (Instr.buildSlice 104 4 #[(0, .agg [.int .i64 12, .int .i64 8, .int .i64 12].toArray), (1, .agg [.int .i64 11, .int .i64 1, .int .i64 20].toArray), (2, .agg [.int .i64 1, .int .i64 10, .int .i64 21].toArray), (3, .agg [.int .i64 20, .int .i64 1, .int .i64 31].toArray)]).run Tryz.prog w = .ok (.slice (some ⟨w.heap.size, 0, none⟩) 4 4) (w.alloc (.cells (pcC (12, 8, 12) ++ (pcC (11, 1, 20) ++ (pcC (1, 10, 21) ++ pcC (20, 1, 31)))).toArray 169)) := fun w => bsP4 (pcC (12, 8, 12)) (pcC (11, 1, 20)) (pcC (1, 10, 21)) (pcC (20, 1, 31)) rfl rfl rfl rfl w
  simp (disch := first | assumption | omega | (simp only [szR, rwC_len, rwC_all, inC_len, inC_all, pcC_len, pcC_all, loC_len, loC_all] <;> omega) | rfl | decide) only [gen0, gen1, gen2, rulesC, rulesX, litR, bolR, Nat.reduceAdd, Nat.reduceLeDiff, numR, memR, valR, heapR, updR, intR, decR, extR, slR, segR, thenR, pnR, Int.reduceToNat, Int.reduceAdd, Int.reduceSub, Int.reduceLT, Int.reduceLE, Nat.reduceSub, Nat.reduceMul, Nat.reduceEqDiff, hbs]
  refine hK (.slice (some ⟨w.heap.size + 1, 0, none⟩) 4 4) _ (rowsP4 (p := (12, 8, 12)) (q := (11, 1, 20)) (r := (1, 10, 21)) (s := (20, 1, 31)) (E := 169) (f := (0, 0)) ?_) ⟨_, _, _, rfl⟩ (by (repeat first | assumption | exact Ext.refl | apply Ext.alloc | apply Ext.drew | (refine Ext.updN ?_ ?_; (focus first | omega | (simp only [szR] <;> omega))) | (refine Ext.updI ?_ ?_; (focus (simp; done)))))
  rw [upd_ne (by omega)]
  exact alloc_at (by simp only [szR])
theorem hasJ_spec {w : World} {K : Value → World → Prop} (hK : K (.tuple #[.bool true, .bool false, .bool false]) w) : callsK Tryz.prog 38 #[.int .u8 ((74 : Nat) : Int)] w K := by
  apply F38_ok
  unfold F38
  simp (disch := first | assumption | omega | (simp only [szR, rwC_len, rwC_all, inC_len, inC_all, pcC_len, pcC_all, loC_len, loC_all] <;> omega) | rfl | decide) only [gen0, gen1, gen2, rulesC, rulesX, litR, bolR, Nat.reduceAdd, Nat.reduceLeDiff, numR, memR, valR, heapR, updR, intR, decR, extR, slR, segR, thenR, pnR, Int.reduceToNat, Int.reduceAdd, Int.reduceSub, Int.reduceLT, Int.reduceLE, Nat.reduceSub, Nat.reduceMul, Nat.reduceEqDiff]
  refine joinL.intro fun J0 hJ0 => ?_
  simp (disch := first | assumption | omega | (simp only [szR, rwC_len, rwC_all, inC_len, inC_all, pcC_len, pcC_all, loC_len, loC_all] <;> omega) | rfl | decide) only [gen0, gen1, gen2, rulesC, rulesX, litR, bolR, Nat.reduceAdd, Nat.reduceLeDiff, numR, memR, valR, heapR, updR, intR, decR, extR, slR, segR, thenR, pnR, Int.reduceToNat, Int.reduceAdd, Int.reduceSub, Int.reduceLT, Int.reduceLE, Nat.reduceSub, Nat.reduceMul, Nat.reduceEqDiff]
  apply hJ0
  intro _
  refine .inr ⟨rfl, ?_⟩
  refine joinL.intro fun J2 hJ2 => ?_
  simp (disch := first | assumption | omega | (simp only [szR, rwC_len, rwC_all, inC_len, inC_all, pcC_len, pcC_all, loC_len, loC_all] <;> omega) | rfl | decide) only [gen0, gen1, gen2, rulesC, rulesX, litR, bolR, Nat.reduceAdd, Nat.reduceLeDiff, numR, memR, valR, heapR, updR, intR, decR, extR, slR, segR, thenR, pnR, Int.reduceToNat, Int.reduceAdd, Int.reduceSub, Int.reduceLT, Int.reduceLE, Nat.reduceSub, Nat.reduceMul, Nat.reduceEqDiff]
  apply hJ2
  intro _
  refine .inr ⟨rfl, ?_⟩
  refine joinL.intro fun J4 hJ4 => ?_
  simp (disch := first | assumption | omega | (simp only [szR, rwC_len, rwC_all, inC_len, inC_all, pcC_len, pcC_all, loC_len, loC_all] <;> omega) | rfl | decide) only [gen0, gen1, gen2, rulesC, rulesX, litR, bolR, Nat.reduceAdd, Nat.reduceLeDiff, numR, memR, valR, heapR, updR, intR, decR, extR, slR, segR, thenR, pnR, Int.reduceToNat, Int.reduceAdd, Int.reduceSub, Int.reduceLT, Int.reduceLE, Nat.reduceSub, Nat.reduceMul, Nat.reduceEqDiff]
  apply hJ4
  intro _
  exact .inl ⟨rfl, hK⟩
set_option maxHeartbeats 1000000 in
theorem jDecode_spec {w : World} {W k : Nat} (hW : W < 4294967296) (hk : k < 69) (hne : ∀ j, j < k → W &&& fixM (row j) ≠ fixW (row j)) (heq : W &&& fixM (row k) = fixW (row k)) (hs : (row k).s = 74) (hpl : ∀ i p, pcsJ[i]? = some p → (pcsJ.take i).foldl (pcN W) 0 < 2 ^ p.1) (hlt : pcsJ.foldl (pcN W) 0 < 2 ^ 20) {K : Value → World → Prop}
    (hK : ∀ w', Ext [] w w' → K (.tuple #[.agg (inC ⟨k + 1, W / 2 ^ 7 % 2 ^ 5, 0, 0, pcsJ.foldl (pcN W) 0⟩).toArray, .bool true]) w') : callsK Tryz.prog 31 #[.int .u32 (W : Nat)] w K := by
  apply F31_ok
  unfold F31
  simp (disch := first | assumption | omega | (simp only [szR, rwC_len, rwC_all, inC_len, inC_all, pcC_len, pcC_all, loC_len, loC_all] <;> omega) | rfl | decide) only [gen0, gen1, gen2, rulesC, rulesX, litR, bolR, Nat.reduceAdd, Nat.reduceLeDiff, numR, memR, valR, heapR, updR, intR, decR, extR, slR, segR, thenR, pnR, Int.reduceToNat, Int.reduceAdd, Int.reduceSub, Int.reduceLT, Int.reduceLE, Nat.reduceSub, Nat.reduceMul, Nat.reduceEqDiff]
  have hx0 : Ext [] w (w.alloc (.cells [.int .i64 0, .int .i64 0, .int .i64 0, .int .i64 0, .int .i64 0].toArray 49)) := by (repeat first | assumption | exact Ext.refl | apply Ext.alloc | apply Ext.drew | (refine Ext.updN ?_ ?_; (focus first | omega | (simp only [szR] <;> omega))) | (refine Ext.updI ?_ ?_; (focus (simp; done))))
  refine rows_spec fun w1 hx1 => ?_
  have hxa := hx0.trans hx1 (by simp)
  have h2 := hx1.at (b := w.heap.size) (o := .cells [.int .i64 0, .int .i64 0, .int .i64 0, .int .i64 0, .int .i64 0].toArray 49 (0, 0)) (by first | with_reducible rfl | assumption | (simp (disch := first | assumption | omega | (simp only [szR, rwC_len, rwC_all, inC_len, inC_all, pcC_len, pcC_all, loC_len, loC_all] <;> omega) | rfl | decide) only [gen0, gen1, gen2, rulesC, rulesX, litR, bolR, Nat.reduceAdd, Nat.reduceLeDiff, numR, memR, valR, heapR, updR, intR, decR, extR, slR, segR, thenR, pnR, Int.reduceToNat, Int.reduceAdd, Int.reduceSub, Int.reduceLT, Int.reduceLE, Nat.reduceSub, Nat.reduceMul, Nat.reduceEqDiff] <;> rfl)) (by simp)
  refine loopT.intro (fun st w' => ∃ (j : Nat), j ≤ k ∧ st = [.int .i64 (j : Nat)] ∧ w'.heap[w.heap.size]? = some (.cells [.int .i64 0, .int .i64 0, .int .i64 0, .int .i64 0, .int .i64 0].toArray 49 (0, 0)) ∧ Ext [] w w')
    (fun st _ => match st with
      | [.int _ z] => k - z.toNat
      | _ => 0) ⟨0, Nat.zero_le _, rfl, h2, hxa⟩ ?_
  rintro st w' ⟨j, hj, rfl, h3, hx'⟩ _
  have l3 := lt_of_at h3
  obtain ⟨ok, gW, gM⟩ := row_good (k := j) (by omega)
  have hix := row_ix j (by omega)
  have hj69 : j < 69 := by omega
  simp (disch := first | assumption | omega | (simp only [szR, rwC_len, rwC_all, inC_len, inC_all, pcC_len, pcC_all, loC_len, loC_all] <;> omega) | rfl | decide) only [gen0, gen1, gen2, rulesC, rulesX, litR, bolR, Nat.reduceAdd, Nat.reduceLeDiff, numR, memR, valR, heapR, updR, intR, decR, extR, slR, segR, thenR, pnR, Int.reduceToNat, Int.reduceAdd, Int.reduceSub, Int.reduceLT, Int.reduceLE, Nat.reduceSub, Nat.reduceMul, Nat.reduceEqDiff, hix, rw_over, rw_put]
  have hx4 : Ext [] w' (w'.alloc (.cells (rwC (row j)).toArray 101)) := by (repeat first | assumption | exact Ext.refl | apply Ext.alloc | apply Ext.drew | (refine Ext.updN ?_ ?_; (focus first | omega | (simp only [szR] <;> omega))) | (refine Ext.updI ?_ ?_; (focus (simp; done))))
  refine fixed_spec ok fun w2 hx5 => ?_
  have hx6 := hx4.trans hx5 (by simp)
  have hx7 := hx'.trans hx6 (by simp)
  have k3 := hx6.at h3 (by simp)
  have kr := hx5.at (b := w'.heap.size) (o := .cells (rwC (row j)).toArray 101 (0, 0)) (by first | with_reducible rfl | assumption | (simp (disch := first | assumption | omega | (simp only [szR, rwC_len, rwC_all, inC_len, inC_all, pcC_len, pcC_all, loC_len, loC_all] <;> omega) | rfl | decide) only [gen0, gen1, gen2, rulesC, rulesX, litR, bolR, Nat.reduceAdd, Nat.reduceLeDiff, numR, memR, valR, heapR, updR, intR, decR, extR, slR, segR, thenR, pnR, Int.reduceToNat, Int.reduceAdd, Int.reduceSub, Int.reduceLT, Int.reduceLE, Nat.reduceSub, Nat.reduceMul, Nat.reduceEqDiff] <;> rfl)) (by simp)
  have hand : bitI .and .u64 (W : Int) (fixM (row j) : Nat) = ((W &&& fixM (row j) : Nat) : Int) := by
    rw [and_u64 (by omega) (by omega)]
    simp
  have hal : W &&& fixM (row j) ≤ W := Nat.and_le_left
  by_cases hjk : j < k
  · have hn := hne j hjk
    have hn2 : ((W &&& fixM (row j) : Nat) : Int) ≠ ((fixW (row j) : Nat) : Int) := by omega
    simp (disch := first | assumption | omega | (simp only [szR, rwC_len, rwC_all, inC_len, inC_all, pcC_len, pcC_all, loC_len, loC_all] <;> omega) | rfl | decide) only [gen0, gen1, gen2, rulesC, rulesX, litR, bolR, Nat.reduceAdd, Nat.reduceLeDiff, numR, memR, valR, heapR, updR, intR, decR, extR, slR, segR, thenR, pnR, Int.reduceToNat, Int.reduceAdd, Int.reduceSub, Int.reduceLT, Int.reduceLE, Nat.reduceSub, Nat.reduceMul, Nat.reduceEqDiff, hand]
    exact ⟨⟨j + 1, by omega, rfl, k3, hx7⟩, by first | omega | (simp <;> omega)⟩
  · obtain rfl : j = k := by omega
    have hn2 : ((W &&& fixM (row j) : Nat) : Int) = ((fixW (row j) : Nat) : Int) := by rw [heq]
    simp (disch := first | assumption | omega | (simp only [szR, rwC_len, rwC_all, inC_len, inC_all, pcC_len, pcC_all, loC_len, loC_all] <;> omega) | rfl | decide) only [gen0, gen1, gen2, rulesC, rulesX, litR, bolR, Nat.reduceAdd, Nat.reduceLeDiff, numR, memR, valR, heapR, updR, intR, decR, extR, slR, segR, thenR, pnR, Int.reduceToNat, Int.reduceAdd, Int.reduceSub, Int.reduceLT, Int.reduceLE, Nat.reduceSub, Nat.reduceMul, Nat.reduceEqDiff, hand, hn2]
    have r1 : (rwC (row j))[1]? = some (.int .u8 ((row j).s : Nat)) := rfl
    simp (disch := first | assumption | omega | (simp only [szR, rwC_len, rwC_all, inC_len, inC_all, pcC_len, pcC_all, loC_len, loC_all] <;> omega) | rfl | decide) only [gen0, gen1, gen2, rulesC, rulesX, litR, bolR, Nat.reduceAdd, Nat.reduceLeDiff, numR, memR, valR, heapR, updR, intR, decR, extR, slR, segR, thenR, pnR, Int.reduceToNat, Int.reduceAdd, Int.reduceSub, Int.reduceLT, Int.reduceLE, Nat.reduceSub, Nat.reduceMul, Nat.reduceEqDiff, kr, r1]
    have lr := lt_of_at kr
    have l3' := lt_of_at k3
    rw [hs]
    refine laidJ_spec fun v w3 hv hsl hx8 => ?_
    obtain ⟨a, n, c, rfl⟩ := hsl
    simp (disch := first | assumption | omega | (simp only [szR, rwC_len, rwC_all, inC_len, inC_all, pcC_len, pcC_all, loC_len, loC_all] <;> omega) | rfl | decide) only [gen0, gen1, gen2, rulesC, rulesX, litR, bolR, Nat.reduceAdd, Nat.reduceLeDiff, numR, memR, valR, heapR, updR, intR, decR, extR, slR, segR, thenR, pnR, Int.reduceToNat, Int.reduceAdd, Int.reduceSub, Int.reduceLT, Int.reduceLE, Nat.reduceSub, Nat.reduceMul, Nat.reduceEqDiff]
    refine read_spec hv pcsJ_ok (by omega) hpl (by decide) (by simpa using hlt) fun w4 hx9 => ?_
    have p20 : (2 : Nat) ^ 20 = 1048576 := by decide
    rw [p20] at hlt
    generalize pcsJ.foldl (pcN W) 0 = im at *
    have hb : ∀ (x y : Int) (w : World), (Instr.build 49 #[(0, .int .i64 x), (4, .int .i64 y)]).run Tryz.prog w = .ok (.agg [.int .i64 x, .int .i64 0, .int .i64 0, .int .i64 0, .int .i64 y].toArray) w := fun x y w => run_build w 49 _ _ (by kernel_rfl)
    have hb2 : ∀ (w : World), (Instr.build 49 #[(0, .int .i64 ((j : Nat) + 1 : Int)), (4, .int .i64 (im : Nat))]).run Tryz.prog w = .ok (.agg (inC ⟨j + 1, 0, 0, 0, im⟩).toArray) w := fun w => hb _ _ w
    have hxb := hx8.trans hx9 (by simp)
    have m3 := hxb.at k3 (by simp)
    have mr := hxb.at kr (by simp)
    have lm3 := lt_of_at m3
    have lmr := lt_of_at mr
    have z1 : ∀ i : In, splice [.int .i64 0, .int .i64 0, .int .i64 0, .int .i64 0, .int .i64 0] 0 (inC i) = inC i := fun _ => rfl
    have z2 : ∀ i : In, inC i ++ List.drop (inC i).length [.int .i64 0, .int .i64 0, .int .i64 0, .int .i64 0, .int .i64 0] = inC i := fun _ => by simp [inC]
    simp (disch := first | assumption | omega | (simp only [szR, rwC_len, rwC_all, inC_len, inC_all, pcC_len, pcC_all, loC_len, loC_all] <;> omega) | rfl | decide) only [gen0, gen1, gen2, rulesC, rulesX, litR, bolR, Nat.reduceAdd, Nat.reduceLeDiff, numR, memR, valR, heapR, updR, intR, decR, extR, slR, segR, thenR, pnR, Int.reduceToNat, Int.reduceAdd, Int.reduceSub, Int.reduceLT, Int.reduceLE, Nat.reduceSub, Nat.reduceMul, Nat.reduceEqDiff, hb2, z1, z2, mr, r1]
    rw [hs]
    refine hasJ_spec ?_
    have hxc : Ext [] w (w4.alloc (.cells (inC ⟨j + 1, 0, 0, 0, im⟩).toArray 49)) := by
      have := hx7.trans hxb (by simp)
      (repeat first | assumption | exact Ext.refl | apply Ext.alloc | apply Ext.drew | (refine Ext.updN ?_ ?_; (focus first | omega | (simp only [szR] <;> omega))) | (refine Ext.updI ?_ ?_; (focus (simp; done))))
    have q3 : (w4.alloc (.cells (inC ⟨j + 1, 0, 0, 0, im⟩).toArray 49)).heap[w.heap.size]? = some (.cells [.int .i64 0, .int .i64 0, .int .i64 0, .int .i64 0, .int .i64 0].toArray 49 (0, 0)) := (by first | with_reducible rfl | assumption | (simp (disch := first | assumption | omega | (simp only [szR, rwC_len, rwC_all, inC_len, inC_all, pcC_len, pcC_all, loC_len, loC_all] <;> omega) | rfl | decide) only [gen0, gen1, gen2, rulesC, rulesX, litR, bolR, Nat.reduceAdd, Nat.reduceLeDiff, numR, memR, valR, heapR, updR, intR, decR, extR, slR, segR, thenR, pnR, Int.reduceToNat, Int.reduceAdd, Int.reduceSub, Int.reduceLT, Int.reduceLE, Nat.reduceSub, Nat.reduceMul, Nat.reduceEqDiff, m3] <;> rfl))
    have q9 : (w4.alloc (.cells (inC ⟨j + 1, 0, 0, 0, im⟩).toArray 49)).heap[w4.heap.size]? = some (.cells (inC ⟨j + 1, 0, 0, 0, im⟩).toArray 49 (0, 0)) := (by first | with_reducible rfl | assumption | (simp (disch := first | assumption | omega | (simp only [szR, rwC_len, rwC_all, inC_len, inC_all, pcC_len, pcC_all, loC_len, loC_all] <;> omega) | rfl | decide) only [gen0, gen1, gen2, rulesC, rulesX, litR, bolR, Nat.reduceAdd, Nat.reduceLeDiff, numR, memR, valR, heapR, updR, intR, decR, extR, slR, segR, thenR, pnR, Int.reduceToNat, Int.reduceAdd, Int.reduceSub, Int.reduceLT, Int.reduceLE, Nat.reduceSub, Nat.reduceMul, Nat.reduceEqDiff] <;> rfl))
    have hw4 : w.heap.size < w4.heap.size := by omega
    obtain ⟨b9, hb9⟩ : ∃ b9, b9 = w4.heap.size := ⟨_, rfl⟩
    rw [← hb9] at q9 hw4 ⊢
    simp (disch := first | assumption | omega | (simp only [szR, rwC_len, rwC_all, inC_len, inC_all, pcC_len, pcC_all, loC_len, loC_all] <;> omega) | rfl | decide) only [gen0, gen1, gen2, rulesC, rulesX, litR, bolR, Nat.reduceAdd, Nat.reduceLeDiff, numR, memR, valR, heapR, updR, intR, decR, extR, slR, segR, thenR, pnR, Int.reduceToNat, Int.reduceAdd, Int.reduceSub, Int.reduceLT, Int.reduceLE, Nat.reduceSub, Nat.reduceMul, Nat.reduceEqDiff]
    generalize (w4.alloc (.cells (inC ⟨j + 1, 0, 0, 0, im⟩).toArray 49)) = w5 at *
    refine joinL.intro fun J2 hJ2 => ?_
    have s1 : ∀ (o r1 r2 x : Nat) (v : Nat), (inC ⟨o, 0, r1, r2, x⟩).set 1 (.int .i64 (v : Nat)) = inC ⟨o, v, r1, r2, x⟩ := fun _ _ _ _ _ => rfl
    have s2 : ∀ (o rd r2 x : Nat) (v : Nat), (inC ⟨o, rd, 0, r2, x⟩).set 2 (.int .i64 (v : Nat)) = inC ⟨o, rd, v, r2, x⟩ := fun _ _ _ _ _ => rfl
    have s3 : ∀ (o rd r1 x : Nat) (v : Nat), (inC ⟨o, rd, r1, 0, x⟩).set 3 (.int .i64 (v : Nat)) = inC ⟨o, rd, r1, v, x⟩ := fun _ _ _ _ _ => rfl
    have g2 : ∀ (w6 : World) (rd : Nat), rd = W / 2 ^ 7 % 2 ^ 5 → w6.heap[b9]? = some (.cells (inC ⟨j + 1, rd, 0, 0, im⟩).toArray 49 (0, 0)) → w6.heap[w.heap.size]? = some (.cells [.int .i64 0, .int .i64 0, .int .i64 0, .int .i64 0, .int .i64 0].toArray 49 (0, 0)) → Ext [] w w6 → J2 [] w6 := by
      intro w6 rd hrd a1 a2 a3
      rw [← hrd] at hK
      apply hJ2
      intro _
      refine joinL.intro fun J4 hJ4 => ?_
      refine .inr ⟨rfl, ?_⟩
      apply hJ4
      intro _
      refine joinL.intro fun J6 hJ6 => ?_
      refine .inr ⟨rfl, ?_⟩
      apply hJ6
      intro _
      have ld1 := lt_of_at a1
      have ld2 := lt_of_at a2
      simp (disch := first | assumption | omega | (simp only [szR, rwC_len, rwC_all, inC_len, inC_all, pcC_len, pcC_all, loC_len, loC_all] <;> omega) | rfl | decide) only [gen0, gen1, gen2, rulesC, rulesX, litR, bolR, Nat.reduceAdd, Nat.reduceLeDiff, numR, memR, valR, heapR, updR, intR, decR, extR, slR, segR, thenR, pnR, Int.reduceToNat, Int.reduceAdd, Int.reduceSub, Int.reduceLT, Int.reduceLE, Nat.reduceSub, Nat.reduceMul, Nat.reduceEqDiff, a1, a2, inC_sub, z1, z2]
      exact hK _ (by (repeat first | assumption | exact Ext.refl | apply Ext.alloc | apply Ext.drew | (refine Ext.updN ?_ ?_; (focus first | omega | (simp only [szR] <;> omega))) | (refine Ext.updI ?_ ?_; (focus (simp; done)))))
    have : W / 2 ^ 7 % 2 ^ 5 < 2 ^ 5 := Nat.mod_lt _ (Nat.two_pow_pos _)
    have p5 : (2 : Nat) ^ 5 = 32 := by decide
    refine .inl ⟨rfl, ?_⟩
    simp (disch := first | assumption | omega | (simp only [szR, rwC_len, rwC_all, inC_len, inC_all, pcC_len, pcC_all, loC_len, loC_all] <;> omega) | rfl | decide) only [gen0, gen1, gen2, rulesC, rulesX, litR, bolR, Nat.reduceAdd, Nat.reduceLeDiff, numR, memR, valR, heapR, updR, intR, decR, extR, slR, segR, thenR, pnR, Int.reduceToNat, Int.reduceAdd, Int.reduceSub, Int.reduceLT, Int.reduceLE, Nat.reduceSub, Nat.reduceMul, Nat.reduceEqDiff]
    refine fGet_spec (by decide) (by decide) (by decide) (by omega) fun w8 hx10 => ?_
    have e7 : ((7 : Int).toNat) = 7 := rfl
    have e5 : ((5 : Int).toNat) = 5 := rfl
    rw [e7, e5]
    have d1 := hx10.at q9 (by simp)
    have d2 := hx10.at q3 (by simp)
    have ld1 := lt_of_at d1
    obtain ⟨y, hy⟩ : ∃ y, y = W / 2 ^ 7 % 2 ^ 5 := ⟨_, rfl⟩
    rw [← hy] at this ⊢
    have hne9 : w.heap.size ≠ b9 := by omega
    simp (disch := first | assumption | omega | (simp only [szR, rwC_len, rwC_all, inC_len, inC_all, pcC_len, pcC_all, loC_len, loC_all] <;> omega) | rfl | decide) only [gen0, gen1, gen2, rulesC, rulesX, litR, bolR, Nat.reduceAdd, Nat.reduceLeDiff, numR, memR, valR, heapR, updR, intR, decR, extR, slR, segR, thenR, pnR, Int.reduceToNat, Int.reduceAdd, Int.reduceSub, Int.reduceLT, Int.reduceLE, Nat.reduceSub, Nat.reduceMul, Nat.reduceEqDiff, d1, s1]
    have hx11 : Ext [] w (World.upd w8 b9 (inC ⟨j + 1, y, 0, 0, im⟩)) := by
      have := hxc.trans hx10 (by simp)
      have hbw : w.heap.size ≤ b9 := by omega
      exact this.upd _ (.inr hbw)
    exact g2 _ y hy (upd_at d1) ((upd_ne hne9).trans d2) hx11
end Go.Proofs.YtplfniijbeinmaaGreat
