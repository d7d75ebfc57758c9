/- An event's text is the document's: the law of texts; conditions: those of each theorem. -/
import Derived.Test.YtgnibcaflidjmaaLaw29
namespace Go.Proofs.Ytgnibcaflidjmaa
open Go.Fx
set_option maxRecDepth 100000
set_option linter.unusedSimpArgs false
set_option linter.unusedVariables false
theorem texts_spec {w : World} {v : Value} {e : Ev} {l : List Ev} (he : EvOk e) (hv : RowsAt w v 8 (l.map evC)) (hl : ∀ c ∈ l, EvOk c) {K : Value → World → Prop} (hK : ∀ w', Ext [] w w' → K (.bool true) w') :
    callsK Try.prog 4 #[.agg (evC e).toArray, v] w K := by
  have hlen : (l.map evC).length = l.length := List.length_map ..
  have hlv := hv.lenR (ty := 3) Try.underlying36
  rw [hlen] at hlv
  apply G4_ok
  unfold G4
  have hate := evC_at e
  have hxe : Ext [] w (w.alloc (.cells (evC e).toArray 35)) := by (repeat first | assumption | exact Ext.refl | apply Ext.alloc | apply Ext.drew | (refine Ext.updN ?_ ?_; (focus first | omega | (simp only [szR] <;> omega))) | (refine Ext.updI ?_ ?_; (focus (simp; done))))
  have hce : (w.alloc (.cells (evC e).toArray 35)).heap[w.heap.size]? = some (.cells (evC e).toArray 35 (0, 0)) := alloc_at rfl
  simp (disch := first | assumption | omega | (simp only [szR, List.length_append, List.length_cons, List.length_nil, evC_len2, evC_all2] <;> omega) | rfl | decide) only [gen0, gen1, gen2, rulesC, litR, bolR, Nat.reduceAdd, Nat.reduceLeDiff, numR, memR, valR, heapR, updR, intR, decR, extR, slR, segR, thenR, pnR, Int.reduceToNat, Int.reduceAdd, Int.reduceSub, Int.reduceLT, Int.reduceLE, Nat.reduceSub, Nat.reduceMul, Nat.reduceEqDiff]
  generalize (w.alloc (.cells (evC e).toArray 35)) = w0 at *
  have hl0 := lt_of_at hce
  refine joinL.intro fun J0 hJ0 => ?_
  have hrest : ∀ (v' : Value) (l' : List Ev), RowsAt w0 v' 8 (l'.map evC) → (∀ c ∈ l', EvOk c) → l'.length ≤ 50 → J0 [v'] w0 := by
    intro v' l' hv' hl' h50
    apply hJ0
    clear hJ0 hv hl hlv hlen
    intro _
    have hlv := hv'.lenR (ty := 3) Try.underlying36
    rw [List.length_map] at hlv
    refine loopT.intro (fun st w' => ∃ (k : Nat) (z : Int), k ≤ l'.length ∧ st = [.string (strOfNums (trL e.p (l'.take k))), .int .i64 z] ∧ z = k ∧ Ext [] w0 w')
      (fun st _ => match st with
        | [_, .int _ z] => l'.length - z.toNat
        | _ => 0) ⟨0, 0, by omega, rfl, rfl, Ext.refl⟩ ?_
    rintro st w' ⟨k, z, hk, rfl, rfl, hx⟩ _
    have hr := hv'.ext hx (by simp)
    have hc := hx.at hce (by simp)
    by_cases hlt : k < l'.length
    · obtain ⟨bb, o, cap, La, E, fz, hev, hbb, hfit, hsub, hget⟩ := hr.row (k := k) (r := evC l'[k]) (by simp [hlt])
      have hix : ∀ w, (Instr.indexAt 36 v' (.int .i64 k)).run Try.prog w = .ok (.pointer (some ⟨bb, o + k * 8, none⟩)) w := by
        rw [hev]
        intro w
        simp (disch := first | assumption | omega | (simp only [szR, List.length_append, List.length_cons, List.length_nil, evC_len2, evC_all2] <;> omega) | rfl | decide) only [gen0, gen1, gen2, rulesC, litR, bolR, Nat.reduceAdd, Nat.reduceLeDiff, numR, memR, valR, heapR, updR, intR, decR, extR, slR, segR, thenR, pnR, Int.reduceToNat, Int.reduceAdd, Int.reduceSub, Int.reduceLT, Int.reduceLE, Nat.reduceSub, Nat.reduceMul, Nat.reduceEqDiff, List.length_map]
      have hg0 : ∀ p, p = o + k * 8 → La[p]? = some (.int .i64 l'[k].p) := fun p hp => by rw [hget p (by omega) (by omega)]; subst hp; simp [evC]
      have htl := trL_len (id := e.p) (l := l'.take k) fun c hc => hl' c (List.mem_of_mem_take hc)
      rw [List.length_take, Nat.min_eq_left hk] at htl
      have htk := trL_take (id := e.p) hlt
      have hok := hl' l'[k] (List.getElem_mem hlt)
      clear hget
      generalize l'[k] = c at hg0 htk hok hsub
      have hol := txL_len hok
      simp (disch := first | assumption | omega | (simp only [szR, List.length_append, List.length_cons, List.length_nil, evC_len2, evC_all2] <;> omega) | rfl | decide) only [gen0, gen1, gen2, rulesC, litR, bolR, Nat.reduceAdd, Nat.reduceLeDiff, numR, memR, valR, heapR, updR, intR, decR, extR, slR, segR, thenR, pnR, Int.reduceToNat, Int.reduceAdd, Int.reduceSub, Int.reduceLT, Int.reduceLE, Nat.reduceSub, Nat.reduceMul, Nat.reduceEqDiff, hlv]
      refine joinL.intro fun J4 hJ4 => ?_
      have hfin : ∀ w2 t2, t2 = trL e.p (l'.take k) ++ oneL e.p c → Ext [] w0 w2 → J4 [.string (strOfNums t2)] w2 := by
        rintro w2 t2 rfl h2
        apply hJ4
        intro _
        simp (disch := first | assumption | omega | (simp only [szR, List.length_append, List.length_cons, List.length_nil, evC_len2, evC_all2] <;> omega) | rfl | decide) only [gen0, gen1, gen2, rulesC, litR, bolR, Nat.reduceAdd, Nat.reduceLeDiff, numR, memR, valR, heapR, updR, intR, decR, extR, slR, segR, thenR, pnR, Int.reduceToNat, Int.reduceAdd, Int.reduceSub, Int.reduceLT, Int.reduceLE, Nat.reduceSub, Nat.reduceMul, Nat.reduceEqDiff]
        exact ⟨⟨k + 1, (k : Int) + 1, by omega, by rw [htk], by omega, h2⟩, by simp; omega⟩
      clear hJ4
      have hxw : Ext [] w' w'.drew := by (repeat first | assumption | exact Ext.refl | apply Ext.alloc | apply Ext.drew | (refine Ext.updN ?_ ?_; (focus first | omega | (simp only [szR] <;> omega))) | (refine Ext.updI ?_ ?_; (focus (simp; done))))
      have hxd : Ext [] w0 w'.drew := hx.trans hxw (by simp)
      by_cases hp : c.p = e.p
      · simp (disch := first | assumption | omega | (simp only [szR, List.length_append, List.length_cons, List.length_nil, evC_len2, evC_all2] <;> omega) | rfl | decide) only [gen0, gen1, gen2, rulesC, litR, bolR, Nat.reduceAdd, Nat.reduceLeDiff, numR, memR, valR, heapR, updR, intR, decR, extR, slR, segR, thenR, pnR, Int.reduceToNat, Int.reduceAdd, Int.reduceSub, Int.reduceLT, Int.reduceLE, Nat.reduceSub, Nat.reduceMul, Nat.reduceEqDiff, hix, hbb, hg0, hsub, hc, hate]
        refine own29_spec hok fun w2 hx2 => ?_
        simp (disch := first | assumption | omega | (simp only [szR, List.length_append, List.length_cons, List.length_nil, evC_len2, evC_all2] <;> omega) | rfl | decide) only [gen0, gen1, gen2, rulesC, litR, bolR, Nat.reduceAdd, Nat.reduceLeDiff, numR, memR, valR, heapR, updR, intR, decR, extR, slR, segR, thenR, pnR, Int.reduceToNat, Int.reduceAdd, Int.reduceSub, Int.reduceLT, Int.reduceLE, Nat.reduceSub, Nat.reduceMul, Nat.reduceEqDiff, addN]
        exact hfin _ _ (by rw [oneL, if_pos hp]) (hx.trans (Ext.trans (S := []) (by (repeat first | assumption | exact Ext.refl | apply Ext.alloc | apply Ext.drew | (refine Ext.updN ?_ ?_; (focus first | omega | (simp only [szR] <;> omega))) | (refine Ext.updI ?_ ?_; (focus (simp; done))))) hx2 (by simp)) (by simp))
      · simp (disch := first | assumption | omega | (simp only [szR, List.length_append, List.length_cons, List.length_nil, evC_len2, evC_all2] <;> omega) | rfl | decide) only [gen0, gen1, gen2, rulesC, litR, bolR, Nat.reduceAdd, Nat.reduceLeDiff, numR, memR, valR, heapR, updR, intR, decR, extR, slR, segR, thenR, pnR, Int.reduceToNat, Int.reduceAdd, Int.reduceSub, Int.reduceLT, Int.reduceLE, Nat.reduceSub, Nat.reduceMul, Nat.reduceEqDiff, hix, hbb, hg0, hsub, hc, hate]
        exact hfin _ _ (by rw [oneL, if_neg hp, List.append_nil]) hxd
    · obtain rfl : k = l'.length := by omega
      rw [List.take_length]
      simp (disch := first | assumption | omega | (simp only [szR, List.length_append, List.length_cons, List.length_nil, evC_len2, evC_all2] <;> omega) | rfl | decide) only [gen0, gen1, gen2, rulesC, litR, bolR, Nat.reduceAdd, Nat.reduceLeDiff, numR, memR, valR, heapR, updR, intR, decR, extR, slR, segR, thenR, pnR, Int.reduceToNat, Int.reduceAdd, Int.reduceSub, Int.reduceLT, Int.reduceLE, Nat.reduceSub, Nat.reduceMul, Nat.reduceEqDiff, hlv]
      obtain ⟨I, hI⟩ : ∃ I : World → Prop, I = fun w' => Ext [] w0 w' := ⟨_, rfl⟩
      have keep : ∀ w' w2, I w' → Ext [] w' w2 → I w2 := by
        subst hI
        exact fun w' w2 hx h => hx.trans h (by simp)
      have hu : ∀ w', I w' → Ext [] w0 w' := by
        subst hI
        exact fun _ h => h
      have Le : ∀ K : Value → Prop, K (.agg (evC e).toArray) → iV Try.prog I (Instr.loadAt 35 (.pointer (some ⟨w.heap.size, 0, none⟩))) K := fun K hK => iV.intro _ (fun w' h => by
        have c3 := (hu w' h).at hce (by simp)
        simp (disch := first | assumption | omega | (simp only [szR, List.length_append, List.length_cons, List.length_nil, evC_len2, evC_all2] <;> omega) | rfl | decide) only [gen0, gen1, gen2, rulesC, litR, bolR, Nat.reduceAdd, Nat.reduceLeDiff, numR, memR, valR, heapR, updR, intR, decR, extR, slR, segR, thenR, pnR, Int.reduceToNat, Int.reduceAdd, Int.reduceSub, Int.reduceLT, Int.reduceLE, Nat.reduceSub, Nat.reduceMul, Nat.reduceEqDiff, c3, evC_sub]
        exact ⟨trivial, h⟩) hK
      have hxw : Ext [] w' w'.drew := by (repeat first | assumption | exact Ext.refl | apply Ext.alloc | apply Ext.drew | (refine Ext.updN ?_ ?_; (focus first | omega | (simp only [szR] <;> omega))) | (refine Ext.updI ?_ ?_; (focus (simp; done))))
      refine parR.intro I (by subst hI; exact hx.trans hxw (by simp)) ?_
      refine Le _ ?_
      refine iN.intro (.string (strOfNums (txL e))) (fun w' h => by
        simp (disch := first | assumption | omega | (simp only [szR, List.length_append, List.length_cons, List.length_nil, evC_len2, evC_all2] <;> omega) | rfl | decide) only [gen0, gen1, gen2, rulesC, litR, bolR, Nat.reduceAdd, Nat.reduceLeDiff, numR, memR, valR, heapR, updR, intR, decR, extR, slR, segR, thenR, pnR, Int.reduceToNat, Int.reduceAdd, Int.reduceSub, Int.reduceLT, Int.reduceLE, Nat.reduceSub, Nat.reduceMul, Nat.reduceEqDiff]
        exact stext_spec he fun w2 hx2 => ⟨rfl, keep _ _ h hx2⟩) ?_
      refine Le _ ?_
      refine iN.intro (.string (strOfNums (txL e))) (fun w' h => by
        simp (disch := first | assumption | omega | (simp only [szR, List.length_append, List.length_cons, List.length_nil, evC_len2, evC_all2] <;> omega) | rfl | decide) only [gen0, gen1, gen2, rulesC, litR, bolR, Nat.reduceAdd, Nat.reduceLeDiff, numR, memR, valR, heapR, updR, intR, decR, extR, slR, segR, thenR, pnR, Int.reduceToNat, Int.reduceAdd, Int.reduceSub, Int.reduceLT, Int.reduceLE, Nat.reduceSub, Nat.reduceMul, Nat.reduceEqDiff]
        exact own29_spec he fun w2 hx2 => ⟨rfl, keep _ _ h hx2⟩) ?_
      have Li : ∀ K : Value → Prop, K (.int .i64 e.p) → iV Try.prog I (Instr.loadAt 3 (.pointer (some ⟨w.heap.size, 0, none⟩))) K := fun K hK => iV.intro _ (fun w' h => by
        have c3 := (hu w' h).at hce (by simp)
        simp (disch := first | assumption | omega | (simp only [szR, List.length_append, List.length_cons, List.length_nil, evC_len2, evC_all2] <;> omega) | rfl | decide) only [gen0, gen1, gen2, rulesC, litR, bolR, Nat.reduceAdd, Nat.reduceLeDiff, numR, memR, valR, heapR, updR, intR, decR, extR, slR, segR, thenR, pnR, Int.reduceToNat, Int.reduceAdd, Int.reduceSub, Int.reduceLT, Int.reduceLE, Nat.reduceSub, Nat.reduceMul, Nat.reduceEqDiff, c3, hate]
        exact ⟨trivial, h⟩) hK
      simp (disch := first | assumption | omega | (simp only [szR, List.length_append, List.length_cons, List.length_nil, evC_len2, evC_all2] <;> omega) | rfl | decide) only [gen0, gen1, gen2, rulesC, litR, bolR, Nat.reduceAdd, Nat.reduceLeDiff, numR, memR, valR, heapR, updR, intR, decR, extR, slR, segR, thenR, pnR, Int.reduceToNat, Int.reduceAdd, Int.reduceSub, Int.reduceLT, Int.reduceLE, Nat.reduceSub, Nat.reduceMul, Nat.reduceEqDiff, eqlSelf29, gdPR, pN_pickE]
      refine Li _ ?_
      refine iN.intro (.string (strOfNums (trL e.p l'))) (fun w' h => by
        simp (disch := first | assumption | omega | (simp only [szR, List.length_append, List.length_cons, List.length_nil, evC_len2, evC_all2] <;> omega) | rfl | decide) only [gen0, gen1, gen2, rulesC, litR, bolR, Nat.reduceAdd, Nat.reduceLeDiff, numR, memR, valR, heapR, updR, intR, decR, extR, slR, segR, thenR, pnR, Int.reduceToNat, Int.reduceAdd, Int.reduceSub, Int.reduceLT, Int.reduceLE, Nat.reduceSub, Nat.reduceMul, Nat.reduceEqDiff]
        exact Trace_spec (hv'.ext (hu w' h) (by simp)) hl' (by omega) fun w2 hx2 => ⟨rfl, keep _ _ h hx2⟩) ?_
      simp (disch := first | assumption | omega | (simp only [szR, List.length_append, List.length_cons, List.length_nil, evC_len2, evC_all2] <;> omega) | rfl | decide) only [gen0, gen1, gen2, rulesC, litR, bolR, Nat.reduceAdd, Nat.reduceLeDiff, numR, memR, valR, heapR, updR, intR, decR, extR, slR, segR, thenR, pnR, Int.reduceToNat, Int.reduceAdd, Int.reduceSub, Int.reduceLT, Int.reduceLE, Nat.reduceSub, Nat.reduceMul, Nat.reduceEqDiff, eqlSelf29, gdPR, pN_pickE]
      refine iN.intro (.bool true) (fun w' h => by
        simp (disch := first | assumption | omega | (simp only [szR, List.length_append, List.length_cons, List.length_nil, evC_len2, evC_all2] <;> omega) | rfl | decide) only [gen0, gen1, gen2, rulesC, litR, bolR, Nat.reduceAdd, Nat.reduceLeDiff, numR, memR, valR, heapR, updR, intR, decR, extR, slR, segR, thenR, pnR, Int.reduceToNat, Int.reduceAdd, Int.reduceSub, Int.reduceLT, Int.reduceLE, Nat.reduceSub, Nat.reduceMul, Nat.reduceEqDiff]
        exact one19_spec fun w2 hx2 => ⟨rfl, keep _ _ h hx2⟩) ?_
      simp (disch := first | assumption | omega | (simp only [szR, List.length_append, List.length_cons, List.length_nil, evC_len2, evC_all2] <;> omega) | rfl | decide) only [gen0, gen1, gen2, rulesC, litR, bolR, Nat.reduceAdd, Nat.reduceLeDiff, numR, memR, valR, heapR, updR, intR, decR, extR, slR, segR, thenR, pnR, Int.reduceToNat, Int.reduceAdd, Int.reduceSub, Int.reduceLT, Int.reduceLE, Nat.reduceSub, Nat.reduceMul, Nat.reduceEqDiff, eqlSelf29, gdPR, pN_pickE]
      exact allI_intro fun w' h => hK _ (hxe.trans (hu _ h) (by simp))
  clear hJ0
  by_cases h : 50 < l.length
  · simp (disch := first | assumption | omega | (simp only [szR, List.length_append, List.length_cons, List.length_nil, evC_len2, evC_all2] <;> omega) | rfl | decide) only [gen0, gen1, gen2, rulesC, litR, bolR, Nat.reduceAdd, Nat.reduceLeDiff, numR, memR, valR, heapR, updR, intR, decR, extR, slR, segR, thenR, pnR, Int.reduceToNat, Int.reduceAdd, Int.reduceSub, Int.reduceLT, Int.reduceLE, Nat.reduceSub, Nat.reduceMul, Nat.reduceEqDiff, hlv]
    refine kV_cut Try.underlying36 Try.sizeOf35 (hv.ext hxe (by simp)) 0 50 (by omega) (by omega) (.inl ⟨rfl, rfl⟩) (.inr ⟨_, _, rfl, rfl⟩) fun v9 h9 b9 => ?_
    have ee : (List.drop 0 ((l.map evC).take 50)) = (l.take 50).map evC := by rw [List.drop_zero, List.map_take]
    refine hrest v9 (l.take 50) ?_ (fun c hc => hl c (List.mem_of_mem_take hc)) (by simp; omega)
    rw [← ee]
    exact h9 _ (hv.ext hxe (by simp))
  · simp (disch := first | assumption | omega | (simp only [szR, List.length_append, List.length_cons, List.length_nil, evC_len2, evC_all2] <;> omega) | rfl | decide) only [gen0, gen1, gen2, rulesC, litR, bolR, Nat.reduceAdd, Nat.reduceLeDiff, numR, memR, valR, heapR, updR, intR, decR, extR, slR, segR, thenR, pnR, Int.reduceToNat, Int.reduceAdd, Int.reduceSub, Int.reduceLT, Int.reduceLE, Nat.reduceSub, Nat.reduceMul, Nat.reduceEqDiff, hlv]
    exact hrest v l (hv.ext hxe (by simp)) hl (by omega)
end Go.Proofs.Ytgnibcaflidjmaa
