/- The document's walk; conditions: those of each theorem. -/
import Derived.Test.YtbigiabcgplkgaaWalk
namespace Go.Proofs.Ytbigiabcgplkgaa
open Go.Fx
set_option maxRecDepth 100000
set_option linter.unusedSimpArgs false
set_option linter.unusedVariables false
theorem rmC_zero (n : Nat) (va vb : Value) : (rmC n va vb)[0]? = some (.int .i64 n) := rfl
set_option maxHeartbeats 4000000 in
theorem rwalk_spec {w : World} {base n c root va : Nat} {L : List Value} {m : Nat → Int} {P : List (Nat × Int)} {xa xb : Value} (h : RMem w base L n m c P xa xb) (hm : Byte m) (hc : c ≤ 100000) (hn : 0 < n ∧ n ≤ 64) (hroot : root < 18446744073709551616) (hva : va < 18446744073709551616) {K : Value → World → Prop}
    (hK : ∀ w', Ext [] w w' → K (wkRef (walkA (fun a => leN m a 8) n root va)) w') : callsK Try.prog 13 #[.agg L.toArray, .int .u64 root, .int .u64 va] w K := by
  obtain ⟨hlen, hall, hsub⟩ := h.cells
  have hL0 : L[0]? = some (.int .i64 n) := by rw [h.val]; rfl
  have hz : splice [Value.bool false, .bool false, .bool false, .bool false, .bool false, .bool false, .bool false, .bool false, .bool false, .bool false, .bool false, .bool false, .int .u64 0] 0 (entC noF 0) = entC noF 0 := splice_over (by rw [entC_len]; rfl)
  have hsp : ∀ f n g m, splice (entC g m) 0 (entC f n) = entC f n := fun f n g m => splice_over (by rw [entC_len, entC_len])
  have hdr : ∀ f n g m, entC f n ++ List.drop (entC f n).length (entC g m) = entC f n := fun f n g m => by rw [entC_len]; simp [entC]
  have hnone : ∀ w', Ext [] w w' → walkA (fun a => leN m a 8) n root va = none → K (.tuple #[.agg (entC noF 0).toArray, .int .u64 0, .int .i64 1]) w' := fun w' hx he => by
    have := hK w' hx
    rw [he] at this
    exact this
  apply F13_ok
  unfold F13
  by_cases hva2 : ¬ va < 274877906944
  · have he : walkA (fun a => leN m a 8) n root va = none := by unfold walkA; rw [if_neg hva2]
    simp (disch := first | assumption | omega | (simp only [szR, entC_len, entC_all, fdC_len, fdC_all] <;> omega) | rfl | decide) only [gen0, gen1, gen2, rulesM, litR, bolR, Nat.reduceAdd, Nat.reduceLeDiff, numR, memR, valR, heapR, updR, intR, decR, extR, slR, segR, thenR, pnR, Int.reduceToNat, Int.reduceAdd, Int.reduceSub, Int.reduceLT, Int.reduceLE, Nat.reduceSub, Nat.reduceMul, Nat.reduceEqDiff, entC_zero, hz, hsp, hdr, entC_sub]
    exact hnone _ (by (repeat first | assumption | exact Ext.refl | apply Ext.alloc | apply Ext.drew | (refine Ext.updN ?_ ?_; (focus first | omega | (simp only [szR] <;> omega))) | (refine Ext.updI ?_ ?_; (focus (simp; done))))) he
  have hva2 : va < 274877906944 := by omega
  have he : walkA (fun a => leN m a 8) n root va = wk (fun a => leN m a 8) n va 3 root := by unfold walkA; rw [if_pos hva2]
  simp (disch := first | assumption | omega | (simp only [szR, entC_len, entC_all, fdC_len, fdC_all] <;> omega) | rfl | decide) only [gen0, gen1, gen2, rulesM, litR, bolR, Nat.reduceAdd, Nat.reduceLeDiff, numR, memR, valR, heapR, updR, intR, decR, extR, slR, segR, thenR, pnR, Int.reduceToNat, Int.reduceAdd, Int.reduceSub, Int.reduceLT, Int.reduceLE, Nat.reduceSub, Nat.reduceMul, Nat.reduceEqDiff, entC_zero]
  refine loopT.intro (fun st w' => ∃ l frame : Nat, l ≤ 2 ∧ frame < 18446744073709551616 ∧ st = [.int .u64 frame, .int .i64 l] ∧ wk (fun a => leN m a 8) n va (l + 1) frame = walkA (fun a => leN m a 8) n root va ∧ w'.heap[w.heap.size]? = some (.cells L.toArray 28 (0, 0)) ∧ w'.heap[w.heap.size + 1]? = some (.cells (entC noF 0).toArray 37 (0, 0)) ∧ Ext [] w w')
    (fun st _ => match st with
      | [_, .int _ z] => z.toNat
      | _ => 0) ⟨2, root, by omega, hroot, rfl, he.symm, ?_, ?_, ?_⟩ ?_
  · (first | with_reducible rfl | assumption | (simp (disch := first | assumption | omega | (simp only [szR, entC_len, entC_all, fdC_len, fdC_all] <;> omega) | rfl | decide) only [gen0, gen1, gen2, rulesM, litR, bolR, Nat.reduceAdd, Nat.reduceLeDiff, numR, memR, valR, heapR, updR, intR, decR, extR, slR, segR, thenR, pnR, Int.reduceToNat, Int.reduceAdd, Int.reduceSub, Int.reduceLT, Int.reduceLE, Nat.reduceSub, Nat.reduceMul, Nat.reduceEqDiff] <;> try rfl))
  · (first | with_reducible rfl | assumption | (simp (disch := first | assumption | omega | (simp only [szR, entC_len, entC_all, fdC_len, fdC_all] <;> omega) | rfl | decide) only [gen0, gen1, gen2, rulesM, litR, bolR, Nat.reduceAdd, Nat.reduceLeDiff, numR, memR, valR, heapR, updR, intR, decR, extR, slR, segR, thenR, pnR, Int.reduceToNat, Int.reduceAdd, Int.reduceSub, Int.reduceLT, Int.reduceLE, Nat.reduceSub, Nat.reduceMul, Nat.reduceEqDiff, entC_zero] <;> try rfl))
  · (repeat first | assumption | exact Ext.refl | apply Ext.alloc | apply Ext.drew | (refine Ext.updN ?_ ?_; (focus first | omega | (simp only [szR] <;> omega))) | (refine Ext.updI ?_ ?_; (focus (simp; done))))
  rintro st w' ⟨l, frame, hl, hfr, rfl, hwk, hc3, hc6, hx⟩ _
  clear he
  unfold wk at hwk
  have l6 := lt_of_at hc6
  by_cases hfn : n ≤ frame
  · rw [if_pos hfn] at hwk
    simp (disch := first | assumption | omega | (simp only [szR, entC_len, entC_all, fdC_len, fdC_all] <;> omega) | rfl | decide) only [gen0, gen1, gen2, rulesM, litR, bolR, Nat.reduceAdd, Nat.reduceLeDiff, numR, memR, valR, heapR, updR, intR, decR, extR, slR, segR, thenR, pnR, Int.reduceToNat, Int.reduceAdd, Int.reduceSub, Int.reduceLT, Int.reduceLE, Nat.reduceSub, Nat.reduceMul, Nat.reduceEqDiff, hc3, hL0, hc6, entC_zero, hsp, hdr, entC_sub]
    exact hnone _ (by (repeat first | assumption | exact Ext.refl | apply Ext.alloc | apply Ext.drew | (refine Ext.updN ?_ ?_; (focus first | omega | (simp only [szR] <;> omega))) | (refine Ext.updI ?_ ?_; (focus (simp; done))))) hwk.symm
  rw [if_neg hfn] at hwk
  have hil := idx_lt va l
  simp (disch := first | assumption | omega | (simp only [szR, entC_len, entC_all, fdC_len, fdC_all] <;> omega) | rfl | decide) only [gen0, gen1, gen2, rulesM, litR, bolR, Nat.reduceAdd, Nat.reduceLeDiff, numR, memR, valR, heapR, updR, intR, decR, extR, slR, segR, thenR, pnR, Int.reduceToNat, Int.reduceAdd, Int.reduceSub, Int.reduceLT, Int.reduceLE, Nat.reduceSub, Nat.reduceMul, Nat.reduceEqDiff, hc3, hL0]
  refine RIndex_spec hva (by omega) fun w1 hx1 => ?_
  have hxa := hx.trans hx1 (by simp)
  have hc3 := hx1.at hc3 (by simp)
  have hat : frame * 4096 + idx va l * 8 < n * 4096 := by omega
  have hat8 : (frame * 4096 + idx va l * 8) % 8 = 0 := by omega
  obtain ⟨i, hi⟩ : ∃ i, i = idx va l := ⟨_, rfl⟩
  rw [← hi] at hwk hil hat hat8 ⊢
  obtain ⟨at0, hat0⟩ : ∃ at0, at0 = frame * 4096 + i * 8 := ⟨_, rfl⟩
  rw [← hat0] at hwk hat hat8
  have e1 : (frame : Int) * 4096 + 8 * (i : Int) = (at0 : Int) := by omega
  simp (disch := first | assumption | omega | (simp only [szR, entC_len, entC_all, fdC_len, fdC_all] <;> omega) | rfl | decide) only [gen0, gen1, gen2, rulesM, litR, bolR, Nat.reduceAdd, Nat.reduceLeDiff, numR, memR, valR, heapR, updR, intR, decR, extR, slR, segR, thenR, pnR, Int.reduceToNat, Int.reduceAdd, Int.reduceSub, Int.reduceLT, Int.reduceLE, Nat.reduceSub, Nat.reduceMul, Nat.reduceEqDiff, hc3, hsub, hlen, e1]
  refine rLoad_spec (h.ext hxa (by simp)) hm hc (by omega) hat8 hat fun w2 hx2 => ?_
  have hxb := hxa.trans hx2 (by simp)
  have hx64 := le8_lt hm at0
  generalize leN m at0 8 = x at hwk hx64
  simp (disch := first | assumption | omega | (simp only [szR, entC_len, entC_all, fdC_len, fdC_all] <;> omega) | rfl | decide) only [gen0, gen1, gen2, rulesM, litR, bolR, Nat.reduceAdd, Nat.reduceLeDiff, numR, memR, valR, heapR, updR, intR, decR, extR, slR, segR, thenR, pnR, Int.reduceToNat, Int.reduceAdd, Int.reduceSub, Int.reduceLT, Int.reduceLE, Nat.reduceSub, Nat.reduceMul, Nat.reduceEqDiff]
  refine ROf_spec hx64 fun w3 hx3 => ?_
  have hxc := hxb.trans hx3 (by simp)
  have hfx := fr_lt x
  have hsz := hxc.size
  have e6 := (hx1.trans hx2 (by simp)).trans hx3 (by simp)
  have hc6 := e6.at hc6 (by simp)
  have hc3 := (hx2.trans hx3 (by simp)).at hc3 (by simp)
  have l6 := lt_of_at hc6
  cases h0 : fl x 0
  · simp (disch := first | assumption | omega | (simp only [szR, entC_len, entC_all, fdC_len, fdC_all] <;> omega) | rfl | decide) only [gen0, gen1, gen2, rulesM, litR, bolR, Nat.reduceAdd, Nat.reduceLeDiff, numR, memR, valR, heapR, updR, intR, decR, extR, slR, segR, thenR, pnR, Int.reduceToNat, Int.reduceAdd, Int.reduceSub, Int.reduceLT, Int.reduceLE, Nat.reduceSub, Nat.reduceMul, Nat.reduceEqDiff, joinR, hc6, entC_zero, hsp, hdr, entC_at, entC_sub, h0]
    refine hnone _ (by (repeat first | assumption | exact Ext.refl | apply Ext.alloc | apply Ext.drew | (refine Ext.updN ?_ ?_; (focus first | omega | (simp only [szR] <;> omega))) | (refine Ext.updI ?_ ?_; (focus (simp; done))))) ?_
    rw [← hwk, if_pos (by simp [bad, h0])]
  simp (disch := first | assumption | omega | (simp only [szR, entC_len, entC_all, fdC_len, fdC_all] <;> omega) | rfl | decide) only [gen0, gen1, gen2, rulesM, litR, bolR, Nat.reduceAdd, Nat.reduceLeDiff, numR, memR, valR, heapR, updR, intR, decR, extR, slR, segR, thenR, pnR, Int.reduceToNat, Int.reduceAdd, Int.reduceSub, Int.reduceLT, Int.reduceLE, Nat.reduceSub, Nat.reduceMul, Nat.reduceEqDiff, joinR, entC_zero, hsp, hdr, entC_at, entC_sub, h0]
  refine RRight_spec (by omega) fun w5 hx5 => ?_
  have hx5w : Ext [] w w5 := Ext.trans (S := []) (by (repeat first | assumption | exact Ext.refl | apply Ext.alloc | apply Ext.drew | (refine Ext.updN ?_ ?_; (focus first | omega | (simp only [szR] <;> omega))) | (refine Ext.updI ?_ ?_; (focus (simp; done))))) hx5 (by simp)
  have hs5 := hx5.size
  simp only [szR] at hs5
  have hk5 := kept0 hx5
  cases h1 : right (fl x) (fr x)
  · simp (disch := first | assumption | omega | (simp only [szR, entC_len, entC_all, fdC_len, fdC_all] <;> omega) | rfl | decide) only [gen0, gen1, gen2, rulesM, litR, bolR, Nat.reduceAdd, Nat.reduceLeDiff, numR, memR, valR, heapR, updR, intR, decR, extR, slR, segR, thenR, pnR, Int.reduceToNat, Int.reduceAdd, Int.reduceSub, Int.reduceLT, Int.reduceLE, Nat.reduceSub, Nat.reduceMul, Nat.reduceEqDiff, joinR, hk5, hc6, entC_zero, hsp, hdr, entC_sub]
    refine hnone _ (by (repeat first | assumption | exact Ext.refl | apply Ext.alloc | apply Ext.drew | (refine Ext.updN ?_ ?_; (focus first | omega | (simp only [szR] <;> omega))) | (refine Ext.updI ?_ ?_; (focus (simp; done))))) ?_
    rw [← hwk, if_pos (by simp [bad, h0, h1])]
  simp (disch := first | assumption | omega | (simp only [szR, entC_len, entC_all, fdC_len, fdC_all] <;> omega) | rfl | decide) only [gen0, gen1, gen2, rulesM, litR, bolR, Nat.reduceAdd, Nat.reduceLeDiff, numR, memR, valR, heapR, updR, intR, decR, extR, slR, segR, thenR, pnR, Int.reduceToNat, Int.reduceAdd, Int.reduceSub, Int.reduceLT, Int.reduceLE, Nat.reduceSub, Nat.reduceMul, Nat.reduceEqDiff, joinR, hk5, entC_at, entC_sub]
  refine RLeaf_spec fun w6 hx6 => ?_
  have hx6w := hx5w.trans hx6 (by simp)
  have hs6 := hx6.size
  have hk6 := kept0 hx6
  have hdl : decide ((l : Int) = 0) = decide (l = 0) := by
    rw [Bool.eq_iff_iff]
    simp only [decide_eq_true_eq]
    omega
  cases h2 : (leaf (fl x) != decide (l = 0))
  · have h2' : (!(leaf (fl x) == decide (l = 0))) = false := h2
    by_cases h3 : n ≤ fr x
    · simp (disch := first | assumption | omega | (simp only [szR, entC_len, entC_all, fdC_len, fdC_all] <;> omega) | rfl | decide) only [gen0, gen1, gen2, rulesM, litR, bolR, Nat.reduceAdd, Nat.reduceLeDiff, numR, memR, valR, heapR, updR, intR, decR, extR, slR, segR, thenR, pnR, Int.reduceToNat, Int.reduceAdd, Int.reduceSub, Int.reduceLT, Int.reduceLE, Nat.reduceSub, Nat.reduceMul, Nat.reduceEqDiff, joinR, hk6, hk5, hc3, hc6, hL0, entC_zero, hsp, hdr, entC_at, entC_sub, hdl, h2']
      refine hnone _ (by (repeat first | assumption | exact Ext.refl | apply Ext.alloc | apply Ext.drew | (refine Ext.updN ?_ ?_; (focus first | omega | (simp only [szR] <;> omega))) | (refine Ext.updI ?_ ?_; (focus (simp; done))))) ?_
      rw [← hwk, if_pos (by simp [bad, h3])]
    · rw [if_neg (by unfold bad; rw [h0, h1, h2, decide_eq_false h3]; simp)] at hwk
      by_cases hl0 : l = 0
      · subst hl0
        rw [if_pos rfl] at hwk
        rw [← hwk] at hK
        have h2'' : leaf (fl x) = true := by
          cases hlf : leaf (fl x)
          · rw [hlf] at h2; simp at h2
          · rfl
        simp (disch := first | assumption | omega | (simp only [szR, entC_len, entC_all, fdC_len, fdC_all] <;> omega) | rfl | decide) only [gen0, gen1, gen2, rulesM, litR, bolR, Nat.reduceAdd, Nat.reduceLeDiff, numR, memR, valR, heapR, updR, intR, decR, extR, slR, segR, thenR, pnR, Int.reduceToNat, Int.reduceAdd, Int.reduceSub, Int.reduceLT, Int.reduceLE, Nat.reduceSub, Nat.reduceMul, Nat.reduceEqDiff, joinR, hk6, hk5, hc3, hc6, hL0, entC_zero, hsp, hdr, entC_at, entC_sub, hdl, h2', h2'']
        exact hK _ (by (repeat first | assumption | exact Ext.refl | apply Ext.alloc | apply Ext.drew | (refine Ext.updN ?_ ?_; (focus first | omega | (simp only [szR] <;> omega))) | (refine Ext.updI ?_ ?_; (focus (simp; done)))))
      · rw [if_neg hl0] at hwk
        obtain ⟨l', rfl⟩ : ∃ l', l = l' + 1 := ⟨l - 1, by omega⟩
        have e1 : ((l' + 1 : Nat) : Int) - 1 = (l' : Int) := by omega
        have hlf : leaf (fl x) = false := by
          cases hlf : leaf (fl x)
          · rfl
          · rw [hlf] at h2; simp at h2
        simp (disch := first | assumption | omega | (simp only [szR, entC_len, entC_all, fdC_len, fdC_all] <;> omega) | rfl | decide) only [gen0, gen1, gen2, rulesM, litR, bolR, Nat.reduceAdd, Nat.reduceLeDiff, numR, memR, valR, heapR, updR, intR, decR, extR, slR, segR, thenR, pnR, Int.reduceToNat, Int.reduceAdd, Int.reduceSub, Int.reduceLT, Int.reduceLE, Nat.reduceSub, Nat.reduceMul, Nat.reduceEqDiff, joinR, hk6, hk5, hc3, hc6, hL0, entC_zero, hsp, hdr, entC_at, entC_sub, hlf, e1]
        exact ⟨⟨l', fr x, by omega, by omega, rfl, hwk, (by first | with_reducible rfl | assumption | (simp (disch := first | assumption | omega | (simp only [szR, entC_len, entC_all, fdC_len, fdC_all] <;> omega) | rfl | decide) only [gen0, gen1, gen2, rulesM, litR, bolR, Nat.reduceAdd, Nat.reduceLeDiff, numR, memR, valR, heapR, updR, intR, decR, extR, slR, segR, thenR, pnR, Int.reduceToNat, Int.reduceAdd, Int.reduceSub, Int.reduceLT, Int.reduceLE, Nat.reduceSub, Nat.reduceMul, Nat.reduceEqDiff, hk6, hk5, hc3] <;> rfl)), (by first | with_reducible rfl | assumption | (simp (disch := first | assumption | omega | (simp only [szR, entC_len, entC_all, fdC_len, fdC_all] <;> omega) | rfl | decide) only [gen0, gen1, gen2, rulesM, litR, bolR, Nat.reduceAdd, Nat.reduceLeDiff, numR, memR, valR, heapR, updR, intR, decR, extR, slR, segR, thenR, pnR, Int.reduceToNat, Int.reduceAdd, Int.reduceSub, Int.reduceLT, Int.reduceLE, Nat.reduceSub, Nat.reduceMul, Nat.reduceEqDiff, hk6, hk5, hc6] <;> rfl)), by (repeat first | assumption | exact Ext.refl | apply Ext.alloc | apply Ext.drew | (refine Ext.updN ?_ ?_; (focus first | omega | (simp only [szR] <;> omega))) | (refine Ext.updI ?_ ?_; (focus (simp; done))))⟩, by first | omega | (simp <;> omega)⟩
  · have h2' : (!(leaf (fl x) == decide (l = 0))) = true := h2
    simp (disch := first | assumption | omega | (simp only [szR, entC_len, entC_all, fdC_len, fdC_all] <;> omega) | rfl | decide) only [gen0, gen1, gen2, rulesM, litR, bolR, Nat.reduceAdd, Nat.reduceLeDiff, numR, memR, valR, heapR, updR, intR, decR, extR, slR, segR, thenR, pnR, Int.reduceToNat, Int.reduceAdd, Int.reduceSub, Int.reduceLT, Int.reduceLE, Nat.reduceSub, Nat.reduceMul, Nat.reduceEqDiff, joinR, hk6, hk5, hc3, hc6, hL0, entC_zero, hsp, hdr, entC_at, entC_sub, hdl, h2']
    refine hnone _ (by (repeat first | assumption | exact Ext.refl | apply Ext.alloc | apply Ext.drew | (refine Ext.updN ?_ ?_; (focus first | omega | (simp only [szR] <;> omega))) | (refine Ext.updI ?_ ?_; (focus (simp; done))))) ?_
    rw [← hwk, if_pos (by unfold bad; rw [h2]; simp)]
end Go.Proofs.Ytbigiabcgplkgaa
