/- The tables that the unit's laws begin with; conditions: those of each theorem. -/
import Derived.Test.YtbigiabcgplkgaaTrans
namespace Go.Proofs.Ytbigiabcgplkgaa
open Go.Fx
set_option maxRecDepth 100000
set_option linter.unusedSimpArgs false
set_option linter.unusedVariables false
theorem foldVn (n : Nat) : [.bool true, .bool false, .bool false, .bool false, .bool false, .bool false, .bool false, .bool false, .bool false, .bool false, .bool false, .bool false, .int .u64 (n : Int)] = entC fV n := by simp [entC, fV]
def twoE : List LayE := [E1, E2]
theorem twoE_at {k : Nat} (h : k < 2) : ∃ p, twoE[k]? = some p ∧ p.f = fV ∧ p.n = k + 1 ∧ atOf p = k * 4096 := by
  rcases (by omega : k = 0 ∨ k = 1) with rfl | rfl
  · exact ⟨E1, rfl, rfl, rfl, by decide⟩
  · exact ⟨E2, rfl, rfl, rfl, by decide⟩
set_option maxHeartbeats 4000000 in
theorem setup_spec {w : World} {K : Value → World → Prop}
    (hK : ∀ (w' : World) (r q base c : Nat) (g : Nat → Int) (L : List Value) (P : List (Nat × Int)) (va vb : Value), Mem w' r q 8 (laidM twoE) g → RMem w' base L 8 (laidM twoE) c P va vb → c ≤ 480 → r < base → q < base → w.heap.size ≤ r → w.heap.size ≤ q → base ≤ w'.heap.size → Ext [] w w' →
      K (.tuple #[.pointer (some ⟨r, 0, none⟩), .agg L.toArray]) w') : callsK Try.prog 27 #[] w K := by
  apply F27_ok
  unfold F27
  simp (disch := first | assumption | omega | (simp only [szR, entC_len, entC_all, fdC_len, fdC_all] <;> omega) | rfl | decide) only [gen0, gen1, gen2, rulesM, rulesU, litR, bolR, Nat.reduceAdd, Nat.reduceLeDiff, numR, memR, valR, heapR, updR, intR, decR, extR, slR, segR, thenR, pnR, Int.reduceToNat, Int.reduceAdd, Int.reduceSub, Int.reduceLT, Int.reduceLE, Nat.reduceSub, Nat.reduceMul, Nat.reduceEqDiff]
  refine New_spec (n := 8) (by omega) fun w1 hm1 hx1 => ?_
  have hs1 := hx1.size
  have hk1 := kept0 hx1
  simp only [szR] at hs1 hm1
  have hl1 := hm1.lt
  simp (disch := first | assumption | omega | (simp only [szR, entC_len, entC_all, fdC_len, fdC_all] <;> omega) | rfl | decide) only [gen0, gen1, gen2, rulesM, rulesU, litR, bolR, Nat.reduceAdd, Nat.reduceLeDiff, numR, memR, valR, heapR, updR, intR, decR, extR, slR, segR, thenR, pnR, Int.reduceToNat, Int.reduceAdd, Int.reduceSub, Int.reduceLT, Int.reduceLE, Nat.reduceSub, Nat.reduceMul, Nat.reduceEqDiff]
  refine rNew_spec (n := 8) (by omega) fun w2 hr2 hx2 => ?_
  have hs2 := hx2.size
  have hk2 := kept0 hx2
  have hzl : splice [Value.int .i64 0, .slice none 0 0, .slice none 0 0, .slice none 0 0] 0 (rmC 8 (.slice none 0 0) (.slice none 0 0)) = rmC 8 (.slice none 0 0) (.slice none 0 0) := by simp [splice, rmC]
  have hrl : (rmC 8 (.slice none 0 0) (.slice none 0 0)).length = 4 := rfl
  have hra : (rmC 8 (.slice none 0 0) (.slice none 0 0)).all (fun v => v.oneCell') = true := rfl
  have hdz : ∀ l : List Value, l.length = 4 → ∀ vs : List Value, vs.length = 4 → vs ++ List.drop vs.length l = vs := fun l h vs h2 => by simp [h, h2]
  simp (disch := first | assumption | omega | (simp only [szR, entC_len, entC_all, fdC_len, fdC_all] <;> omega) | rfl | decide) only [gen0, gen1, gen2, rulesM, rulesU, litR, bolR, Nat.reduceAdd, Nat.reduceLeDiff, numR, memR, valR, heapR, updR, intR, decR, extR, slR, segR, thenR, pnR, Int.reduceToNat, Int.reduceAdd, Int.reduceSub, Int.reduceLT, Int.reduceLE, Nat.reduceSub, Nat.reduceMul, Nat.reduceEqDiff, hzl, hrl, hra]
  have hx02 : Ext [] w w2 := Ext.trans (S := []) (Ext.trans (S := []) (by (repeat first | assumption | exact Ext.refl | apply Ext.alloc | apply Ext.drew | (refine Ext.updN ?_ ?_; (focus first | omega | (simp only [szR] <;> omega))) | (refine Ext.updI ?_ ?_; (focus (simp; done))))) hx1 (by simp)) hx2 (by simp)
  refine loopT.intro (fun st w' => ∃ (k c : Nat) (g : Nat → Int) (L : List Value) (P : List (Nat × Int)) (va vb : Value), k ≤ 2 ∧ c = 8 * k ∧ st = [.int .i64 k] ∧ Mem w' (w.heap.size + 1 + 1) (w.heap.size + 1) 8 (laidM (twoE.take k)) g ∧ RMem w' (w2.heap.size + 1) L 8 (laidM (twoE.take k)) c P va vb ∧
      w'.heap[w2.heap.size]? = some (.cells L.toArray 28 (0, 0)) ∧ w'.heap[w.heap.size]? = some (.cells [.int .i64 0, .slice none 0 0, .slice none 0 0, .slice none 0 0].toArray 28 (0, 0)) ∧ Ext [] w w')
    (fun st _ => match st with
      | [.int _ z] => 2 - z.toNat
      | _ => 0) ⟨0, 0, fun _ => 0, rmC 8 (.slice none 0 0) (.slice none 0 0), [], .slice none 0 0, .slice none 0 0, by omega, rfl, rfl, ?_, (hr2 _).ext (S := []) ?_ (by simp), ?_, ?_, ?_⟩ ?_
  · refine (hm1.ext hx2 (by simp) (by simp)).ext (S := []) ?_ (by simp) (by simp)
    (repeat first | assumption | exact Ext.refl | apply Ext.alloc | apply Ext.drew | (refine Ext.updN ?_ ?_; (focus first | omega | (simp only [szR] <;> omega))) | (refine Ext.updI ?_ ?_; (focus (simp; done))))
  · (repeat first | assumption | exact Ext.refl | apply Ext.alloc | apply Ext.drew | (refine Ext.updN ?_ ?_; (focus first | omega | (simp only [szR] <;> omega))) | (refine Ext.updI ?_ ?_; (focus (simp; done))))
  · (first | with_reducible rfl | assumption | (simp (disch := first | assumption | omega | (simp only [szR, entC_len, entC_all, fdC_len, fdC_all] <;> omega) | rfl | decide) only [gen0, gen1, gen2, rulesM, rulesU, litR, bolR, Nat.reduceAdd, Nat.reduceLeDiff, numR, memR, valR, heapR, updR, intR, decR, extR, slR, segR, thenR, pnR, Int.reduceToNat, Int.reduceAdd, Int.reduceSub, Int.reduceLT, Int.reduceLE, Nat.reduceSub, Nat.reduceMul, Nat.reduceEqDiff, hdz] <;> try rfl))
  · (first | with_reducible rfl | assumption | (simp (disch := first | assumption | omega | (simp only [szR, entC_len, entC_all, fdC_len, fdC_all] <;> omega) | rfl | decide) only [gen0, gen1, gen2, rulesM, rulesU, litR, bolR, Nat.reduceAdd, Nat.reduceLeDiff, numR, memR, valR, heapR, updR, intR, decR, extR, slR, segR, thenR, pnR, Int.reduceToNat, Int.reduceAdd, Int.reduceSub, Int.reduceLT, Int.reduceLE, Nat.reduceSub, Nat.reduceMul, Nat.reduceEqDiff, hk2, hk1] <;> try rfl))
  · (repeat first | assumption | exact Ext.refl | apply Ext.alloc | apply Ext.drew | (refine Ext.updN ?_ ?_; (focus first | omega | (simp only [szR] <;> omega))) | (refine Ext.updI ?_ ?_; (focus (simp; done))))
  rintro st w' ⟨k, c, g, L, P, va, vb, hk, rfl, rfl, hmem, hrm, hc6, hc3, hx⟩ _
  have hsw := hx.size
  have l6 := lt_of_at hc6
  have hml := hmem.lt
  obtain ⟨hlenL, hallL, hsubL⟩ := hrm.cells
  by_cases hk2 : k < 2
  · obtain ⟨p, hp, hpf, hpn, hpa⟩ := twoE_at hk2
    have hkR : k < twoE.length := (List.getElem?_eq_some_iff.1 hp).1
    have htk := laidM_take hkR
    rw [(List.getElem?_eq_some_iff.1 hp).2, hpf, hpn, hpa] at htk
    have e1 : (k : Int) + 1 = ((k + 1 : Nat) : Int) := by omega
    have e2 : (k : Int) * 4096 = ((k * 4096 : Nat) : Int) := by omega
    have hwl := wd_lt fV (k + 1)
    have hse : ∀ f n, splice [Value.bool false, .bool false, .bool false, .bool false, .bool false, .bool false, .bool false, .bool false, .bool false, .bool false, .bool false, .bool false, .int .u64 0] 0 (entC f n) = entC f n := fun f n => splice_over (by rw [entC_len]; rfl)
    simp (disch := first | assumption | omega | (simp only [szR, entC_len, entC_all, fdC_len, fdC_all] <;> omega) | rfl | decide) only [gen0, gen1, gen2, rulesM, rulesU, litR, bolR, Nat.reduceAdd, Nat.reduceLeDiff, numR, memR, valR, heapR, updR, intR, decR, extR, slR, segR, thenR, pnR, Int.reduceToNat, Int.reduceAdd, Int.reduceSub, Int.reduceLT, Int.reduceLE, Nat.reduceSub, Nat.reduceMul, Nat.reduceEqDiff]
    refine joinL.intro fun J3 hJ3 => ?_
    have hrest : ∀ w5 g' L' P' va' vb', Mem w5 (w.heap.size + 1 + 1) (w.heap.size + 1) 8 (stored (laidM (twoE.take k)) (k * 4096) 8 (wd fV (k + 1) : Nat)) g' → RMem w5 (w2.heap.size + 1) L' 8 (stored (laidM (twoE.take k)) (k * 4096) 8 (wd fV (k + 1) : Nat)) (8 * k + 8) P' va' vb' →
        w5.heap[w2.heap.size]? = some (.cells L'.toArray 28 (0, 0)) → w5.heap[w.heap.size]? = some (.cells [.int .i64 0, .slice none 0 0, .slice none 0 0, .slice none 0 0].toArray 28 (0, 0)) → Ext [] w w5 → J3 [] w5 := by
      intro w5 g' L' P' va' vb' h1 h2 h3 h4 h5
      rw [← htk] at h1 h2
      apply hJ3
      intro _
      simp (disch := first | assumption | omega | (simp only [szR, entC_len, entC_all, fdC_len, fdC_all] <;> omega) | rfl | decide) only [gen0, gen1, gen2, rulesM, rulesU, litR, bolR, Nat.reduceAdd, Nat.reduceLeDiff, numR, memR, valR, heapR, updR, intR, decR, extR, slR, segR, thenR, pnR, Int.reduceToNat, Int.reduceAdd, Int.reduceSub, Int.reduceLT, Int.reduceLE, Nat.reduceSub, Nat.reduceMul, Nat.reduceEqDiff]
      exact ⟨⟨k + 1, 8 * k + 8, g', L', P', va', vb', by omega, by omega, by first | rfl | simp, h1, h2, h3, h4, h5⟩, by first | omega | (simp <;> omega)⟩
    clear hJ3
    simp (disch := first | assumption | omega | (simp only [szR, entC_len, entC_all, fdC_len, fdC_all] <;> omega) | rfl | decide) only [gen0, gen1, gen2, rulesM, rulesU, litR, bolR, Nat.reduceAdd, Nat.reduceLeDiff, numR, memR, valR, heapR, updR, intR, decR, extR, slR, segR, thenR, pnR, Int.reduceToNat, Int.reduceAdd, Int.reduceSub, Int.reduceLT, Int.reduceLE, Nat.reduceSub, Nat.reduceMul, Nat.reduceEqDiff, e1, e2, foldVn, hse, entC_sub]
    refine Word_spec (by omega) fun w3 hx3 => ?_
    have hx3w : Ext [] w' w3 := Ext.trans (S := []) (by (repeat first | assumption | exact Ext.refl | apply Ext.alloc | apply Ext.drew | (refine Ext.updN ?_ ?_; (focus first | omega | (simp only [szR] <;> omega))) | (refine Ext.updI ?_ ?_; (focus (simp; done))))) hx3 (by simp)
    have hs3 := hx3w.size
    simp (disch := first | assumption | omega | (simp only [szR, entC_len, entC_all, fdC_len, fdC_all] <;> omega) | rfl | decide) only [gen0, gen1, gen2, rulesM, rulesU, litR, bolR, Nat.reduceAdd, Nat.reduceLeDiff, numR, memR, valR, heapR, updR, intR, decR, extR, slR, segR, thenR, pnR, Int.reduceToNat, Int.reduceAdd, Int.reduceSub, Int.reduceLT, Int.reduceLE, Nat.reduceSub, Nat.reduceMul, Nat.reduceEqDiff]
    refine Store_spec (v := (wd fV (k + 1) : Nat)) (hmem.ext hx3w (by simp) (by simp)) (a := k * 4096) (by omega) (by omega) (.inr (.inr (.inr rfl))) (by omega) ⟨by omega, by omega⟩ fun g4 w4 hm4 _ hx4 => ?_
    have hs4 := hx4.size
    have hx34 : Ext [w.heap.size + 1] w' w4 := Ext.trans (hx3w.mono (by simp)) hx4 (by simp)
    have hxw4 : Ext [] w w4 := hx.trans hx34 (by simp <;> omega)
    have hc64 := hx34.at hc6 (by simp <;> omega)
    have hc34 := hx34.at hc3 (by simp)
    have hv7 : w4.heap[w'.heap.size]? = some (.cells (entC fV (k + 1)).toArray 32 (0, 0)) := by
      have hk3 := kept0 hx3
      exact hx4.at (by first | with_reducible rfl | assumption | (simp (disch := first | assumption | omega | (simp only [szR, entC_len, entC_all, fdC_len, fdC_all] <;> omega) | rfl | decide) only [gen0, gen1, gen2, rulesM, rulesU, litR, bolR, Nat.reduceAdd, Nat.reduceLeDiff, numR, memR, valR, heapR, updR, intR, decR, extR, slR, segR, thenR, pnR, Int.reduceToNat, Int.reduceAdd, Int.reduceSub, Int.reduceLT, Int.reduceLE, Nat.reduceSub, Nat.reduceMul, Nat.reduceEqDiff, hk3, hse] <;> rfl)) (by simp <;> omega)
    have hr4 := hrm.ext hx34 (by simp <;> omega)
    clear hmem hrm hc6 hc3
    simp (disch := first | assumption | omega | (simp only [szR, entC_len, entC_all, fdC_len, fdC_all] <;> omega) | rfl | decide) only [gen0, gen1, gen2, rulesM, rulesU, litR, bolR, Nat.reduceAdd, Nat.reduceLeDiff, numR, memR, valR, heapR, updR, intR, decR, extR, slR, segR, thenR, pnR, Int.reduceToNat, Int.reduceAdd, Int.reduceSub, Int.reduceLT, Int.reduceLE, Nat.reduceSub, Nat.reduceMul, Nat.reduceEqDiff, hv7, e1, e2, entC_sub, hc64, hsubL, hlenL]
    repeat' (with_reducible apply And.intro)
    all_goals
      refine RWord_spec (by omega) fun w5 hx5 => ?_
      have hk5 := kept0 hx5
      have hs5 := hx5.size
      simp only [szR] at hs5
      have hx45 : Ext [] w4 w5 := Ext.trans (S := []) (by (repeat first | assumption | exact Ext.refl | apply Ext.alloc | apply Ext.drew | (refine Ext.updN ?_ ?_; (focus first | omega | (simp only [szR] <;> omega))) | (refine Ext.updI ?_ ?_; (focus (simp; done))))) hx5 (by simp)
      simp (disch := first | assumption | omega | (simp only [szR, entC_len, entC_all, fdC_len, fdC_all] <;> omega) | rfl | decide) only [gen0, gen1, gen2, rulesM, rulesU, litR, bolR, Nat.reduceAdd, Nat.reduceLeDiff, numR, memR, valR, heapR, updR, intR, decR, extR, slR, segR, thenR, pnR, Int.reduceToNat, Int.reduceAdd, Int.reduceSub, Int.reduceLT, Int.reduceLE, Nat.reduceSub, Nat.reduceMul, Nat.reduceEqDiff, hk5, hc64, hsubL, hlenL]
      refine rStore_spec (hr4.ext hx45 (by simp)) (by omega) (by omega) (by omega) (by omega) (by omega) (by omega) fun L' P' va' vb' w6 h6 hx6 => ?_
      have hk6 := kept0 hx6
      have hs6 := hx6.size
      have hx46 := hx45.trans hx6 (by simp)
      obtain ⟨hlen6, hall6, hsub6⟩ := h6.cells
      have hc66 := hx46.at hc64 (by simp)
      have hc36 := hx46.at hc34 (by simp)
      have hsp := splice_all (l := L) (vs := L') (by omega)
      have hdr := drop_all (l := L) (vs := L') (by omega)
      simp (disch := first | assumption | omega | (simp only [szR, entC_len, entC_all, fdC_len, fdC_all] <;> omega) | rfl | decide) only [gen0, gen1, gen2, rulesM, rulesU, litR, bolR, Nat.reduceAdd, Nat.reduceLeDiff, numR, memR, valR, heapR, updR, intR, decR, extR, slR, segR, thenR, pnR, Int.reduceToNat, Int.reduceAdd, Int.reduceSub, Int.reduceLT, Int.reduceLE, Nat.reduceSub, Nat.reduceMul, Nat.reduceEqDiff, hc66, hlen6, hall6, hsp, hdr]
      have hxw6 := hxw4.trans hx46 (by simp)
      refine hrest _ g4 L' P' va' vb' ((hm4.ext hx46 (by simp) (by simp)).ext (S := [w2.heap.size]) (by (repeat first | assumption | exact Ext.refl | apply Ext.alloc | apply Ext.drew | (refine Ext.updN ?_ ?_; (focus first | omega | (simp only [szR] <;> omega))) | (refine Ext.updI ?_ ?_; (focus (simp; done))))) (by simp <;> omega) (by simp <;> omega)) (h6.ext (S := [w2.heap.size]) (by (repeat first | assumption | exact Ext.refl | apply Ext.alloc | apply Ext.drew | (refine Ext.updN ?_ ?_; (focus first | omega | (simp only [szR] <;> omega))) | (refine Ext.updI ?_ ?_; (focus (simp; done))))) (by simp)) (by first | with_reducible rfl | assumption | (simp (disch := first | assumption | omega | (simp only [szR, entC_len, entC_all, fdC_len, fdC_all] <;> omega) | rfl | decide) only [gen0, gen1, gen2, rulesM, rulesU, litR, bolR, Nat.reduceAdd, Nat.reduceLeDiff, numR, memR, valR, heapR, updR, intR, decR, extR, slR, segR, thenR, pnR, Int.reduceToNat, Int.reduceAdd, Int.reduceSub, Int.reduceLT, Int.reduceLE, Nat.reduceSub, Nat.reduceMul, Nat.reduceEqDiff, hc66, hdr, hsp] <;> rfl)) (by first | with_reducible rfl | assumption | (simp (disch := first | assumption | omega | (simp only [szR, entC_len, entC_all, fdC_len, fdC_all] <;> omega) | rfl | decide) only [gen0, gen1, gen2, rulesM, rulesU, litR, bolR, Nat.reduceAdd, Nat.reduceLeDiff, numR, memR, valR, heapR, updR, intR, decR, extR, slR, segR, thenR, pnR, Int.reduceToNat, Int.reduceAdd, Int.reduceSub, Int.reduceLT, Int.reduceLE, Nat.reduceSub, Nat.reduceMul, Nat.reduceEqDiff, hc36] <;> rfl)) (by (repeat first | assumption | exact Ext.refl | apply Ext.alloc | apply Ext.drew | (refine Ext.updN ?_ ?_; (focus first | omega | (simp only [szR] <;> omega))) | (refine Ext.updI ?_ ?_; (focus (simp; done)))))
  · obtain rfl : k = 2 := by omega
    have ht : twoE.take 2 = twoE := rfl
    rw [ht] at hmem hrm
    have hsp := splice_all (l := [.int .i64 0, .slice none 0 0, .slice none 0 0, .slice none 0 0]) (vs := L) (by rw [hlenL]; rfl)
    have l3 := lt_of_at hc3
    have hfin : ∀ w5, w5 = World.upd w'.drew w.heap.size L → K (.tuple #[.pointer (some ⟨w.heap.size + 1 + 1, 0, none⟩), .agg L.toArray]) w5 := by
      rintro w5 rfl
      refine hK _ _ _ (w2.heap.size + 1) (8 * 2) g L P va vb (hmem.ext (S := [w.heap.size]) (by (repeat first | assumption | exact Ext.refl | apply Ext.alloc | apply Ext.drew | (refine Ext.updN ?_ ?_; (focus first | omega | (simp only [szR] <;> omega))) | (refine Ext.updI ?_ ?_; (focus (simp; done))))) (by simp <;> omega) (by simp <;> omega)) (hrm.ext (S := [w.heap.size]) (by (repeat first | assumption | exact Ext.refl | apply Ext.alloc | apply Ext.drew | (refine Ext.updN ?_ ?_; (focus first | omega | (simp only [szR] <;> omega))) | (refine Ext.updI ?_ ?_; (focus (simp; done))))) (by simp <;> omega)) (by omega) (by omega) (by omega) (by omega) (by omega) (by simp only [szR]; omega) (by (repeat first | assumption | exact Ext.refl | apply Ext.alloc | apply Ext.drew | (refine Ext.updN ?_ ?_; (focus first | omega | (simp only [szR] <;> omega))) | (refine Ext.updI ?_ ?_; (focus (simp; done)))))
    simp (disch := first | assumption | omega | (simp only [szR, entC_len, entC_all, fdC_len, fdC_all] <;> omega) | rfl | decide) only [gen0, gen1, gen2, rulesM, rulesU, litR, bolR, Nat.reduceAdd, Nat.reduceLeDiff, numR, memR, valR, heapR, updR, intR, decR, extR, slR, segR, thenR, pnR, Int.reduceToNat, Int.reduceAdd, Int.reduceSub, Int.reduceLT, Int.reduceLE, Nat.reduceSub, Nat.reduceMul, Nat.reduceEqDiff, hc6, hc3, hsubL, hlenL, hallL, hsp]
    exact hfin _ rfl
end Go.Proofs.Ytbigiabcgplkgaa
