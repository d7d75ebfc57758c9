/- The document's unit: what an address is, plainly; conditions: those of each theorem. -/
import Derived.Test.YtbigiabcgplkgaaRef11b
namespace Go.Proofs.Ytbigiabcgplkgaa
open Go.Fx
set_option maxRecDepth 100000
set_option linter.unusedSimpArgs false
set_option linter.unusedVariables false
/-- the document's unit's cells. -/
def ruC (vl ve : Value) (ro ai : Nat) (g : Bool) : List Value := [vl, ve, .int .u64 ro, .int .u64 ai, .bool g]
theorem rplace_spec {w : World} {f : Nat → Bool} {n va : Nat} {k : Int} (hn : n < 17592186044416) (hva : va < 18446744073709551616) {K : Value → World → Prop} (hK : ∀ w', Ext [] w w' → K (.agg (plA f n va k).toArray) w') : callsK Try.prog 77 #[.agg (entC f n).toArray, .int .u64 va, .int .i64 k] w K := by
  have hm := Nat.mod_lt va (show 4096 > 0 by omega)
  have e0 : (n : Int) * 4096 = ((n * 4096 : Nat) : Int) := by omega
  have e1 : (va : Int) % 4096 = ((va % 4096 : Nat) : Int) := by omega
  have e : ((n * 4096 : Nat) : Int) + ((va % 4096 : Nat) : Int) = ((n * 4096 + va % 4096 : Nat) : Int) := by omega
  have hk : ∀ s w', s = (decide (k = 3) && !f 9) → Ext [] w w' → K (.agg [.int .u64 ((n * 4096 + va % 4096 : Nat) : Int), .bool s].toArray) w' := fun s w' hs h => by rw [hs]; exact hK w' h
  clear hK
  apply F77_ok
  unfold F77
  by_cases h3 : k = 3
  · subst h3
    cases h9 : f 9
    · simp (disch := first | assumption | omega | (simp only [szR, entC_len, entC_all, fdC_len, fdC_all, un_len] <;> omega) | rfl | decide) only [gen0, gen1, gen2, rulesM, rulesU, litR, bolR, Nat.reduceAdd, Nat.reduceLeDiff, numR, memR, valR, heapR, updR, intR, decR, extR, slR, segR, thenR, pnR, Int.reduceToNat, Int.reduceAdd, Int.reduceSub, Int.reduceLT, Int.reduceLE, Nat.reduceSub, Nat.reduceMul, Nat.reduceEqDiff, joinR, entC_at, e0, e1, e, h9]
      exact hk _ _ (by simp [h9]) (by (repeat first | assumption | exact Ext.refl | apply Ext.alloc | apply Ext.drew | (refine Ext.updN ?_ ?_; (focus first | omega | (simp only [szR] <;> omega))) | (refine Ext.updI ?_ ?_; (focus (simp; done)))))
    · simp (disch := first | assumption | omega | (simp only [szR, entC_len, entC_all, fdC_len, fdC_all, un_len] <;> omega) | rfl | decide) only [gen0, gen1, gen2, rulesM, rulesU, litR, bolR, Nat.reduceAdd, Nat.reduceLeDiff, numR, memR, valR, heapR, updR, intR, decR, extR, slR, segR, thenR, pnR, Int.reduceToNat, Int.reduceAdd, Int.reduceSub, Int.reduceLT, Int.reduceLE, Nat.reduceSub, Nat.reduceMul, Nat.reduceEqDiff, joinR, entC_at, e0, e1, e, h9]
      exact hk _ _ (by simp [h9]) (by (repeat first | assumption | exact Ext.refl | apply Ext.alloc | apply Ext.drew | (refine Ext.updN ?_ ?_; (focus first | omega | (simp only [szR] <;> omega))) | (refine Ext.updI ?_ ?_; (focus (simp; done)))))
  · simp (disch := first | assumption | omega | (simp only [szR, entC_len, entC_all, fdC_len, fdC_all, un_len] <;> omega) | rfl | decide) only [gen0, gen1, gen2, rulesM, rulesU, litR, bolR, Nat.reduceAdd, Nat.reduceLeDiff, numR, memR, valR, heapR, updR, intR, decR, extR, slR, segR, thenR, pnR, Int.reduceToNat, Int.reduceAdd, Int.reduceSub, Int.reduceLT, Int.reduceLE, Nat.reduceSub, Nat.reduceMul, Nat.reduceEqDiff, joinR, entC_at, e0, e1, e]
    exact hk _ _ (by simp [h3]) (by (repeat first | assumption | exact Ext.refl | apply Ext.alloc | apply Ext.drew | (refine Ext.updN ?_ ?_; (focus first | omega | (simp only [szR] <;> omega))) | (refine Ext.updI ?_ ?_; (focus (simp; done)))))
set_option maxHeartbeats 2000000 in
theorem rPlain_spec {w : World} {base c ro ai va : Nat} {vl ve : Value} {g : Bool} {L : List Value} {m : Nat → Int} {P : List (Nat × Int)} {xa xb : Value} {k : Int} {t : Bool} (h : RMem w base L 8 m c P xa xb) (hm : Byte m) (hc : c ≤ 100000) (hro : ro < 18446744073709551616) (hva : va < 18446744073709551616) {K : Value → World → Prop}
    (hK : ∀ w', Ext [] w w' → K (pnR' (walkA (fun a => leN m a 8) 8 ro va) k t g va) w') : callsK Try.prog 34 #[.agg (ruC vl ve ro ai g).toArray, .agg L.toArray, .int .u64 va, .int .i64 k, .bool t] w K := by
  obtain ⟨hlen, hall, hsub⟩ := h.cells
  have hse : ∀ f n, splice [Value.bool false, .bool false, .bool false, .bool false, .bool false, .bool false, .bool false, .bool false, .bool false, .bool false, .bool false, .bool false, .int .u64 0] 0 (entC f n) = entC f n := fun f n => splice_over (by rw [entC_len]; rfl)
  have r2 : (ruC vl ve ro ai g)[2]? = some (.int .u64 ro) := rfl
  have r4 : (ruC vl ve ro ai g)[4]? = some (.bool g) := rfl
  apply F34_ok
  unfold F34
  simp (disch := first | assumption | omega | (simp only [szR, entC_len, entC_all, fdC_len, fdC_all, un_len] <;> omega) | rfl | decide) only [gen0, gen1, gen2, rulesM, rulesU, litR, bolR, Nat.reduceAdd, Nat.reduceLeDiff, numR, memR, valR, heapR, updR, intR, decR, extR, slR, segR, thenR, pnR, Int.reduceToNat, Int.reduceAdd, Int.reduceSub, Int.reduceLT, Int.reduceLE, Nat.reduceSub, Nat.reduceMul, Nat.reduceEqDiff, hsub, hlen, r2]
  refine rwalk_spec (h.ext (S := []) (by (repeat first | assumption | exact Ext.refl | apply Ext.alloc | apply Ext.drew | (refine Ext.updN ?_ ?_; (focus first | omega | (simp only [szR] <;> omega))) | (refine Ext.updI ?_ ?_; (focus (simp; done))))) (by simp)) hm hc (by omega) hro hva fun w1 hx1 => ?_
  have hk1 := kept0 hx1
  have hs1 := hx1.size
  simp only [szR] at hs1
  have hx1w : Ext [] w w1 := Ext.trans (S := []) (by (repeat first | assumption | exact Ext.refl | apply Ext.alloc | apply Ext.drew | (refine Ext.updN ?_ ?_; (focus first | omega | (simp only [szR] <;> omega))) | (refine Ext.updI ?_ ?_; (focus (simp; done))))) hx1 (by simp)
  cases hwa : walkA (fun a => leN m a 8) 8 ro va with
  | none =>
    rw [hwa] at hK
    simp only [wkRef]
    simp (disch := first | assumption | omega | (simp only [szR, entC_len, entC_all, fdC_len, fdC_all, un_len] <;> omega) | rfl | decide) only [gen0, gen1, gen2, rulesM, rulesU, litR, bolR, Nat.reduceAdd, Nat.reduceLeDiff, numR, memR, valR, heapR, updR, intR, decR, extR, slR, segR, thenR, pnR, Int.reduceToNat, Int.reduceAdd, Int.reduceSub, Int.reduceLT, Int.reduceLE, Nat.reduceSub, Nat.reduceMul, Nat.reduceEqDiff, hse, hk1]
    exact hK _ (by (repeat first | assumption | exact Ext.refl | apply Ext.alloc | apply Ext.drew | (refine Ext.updN ?_ ?_; (focus first | omega | (simp only [szR] <;> omega))) | (refine Ext.updI ?_ ?_; (focus (simp; done)))))
  | some p =>
    obtain ⟨x, a⟩ := p
    rw [hwa] at hK
    have hfr := fr_lt x
    simp only [wkRef]
    simp (disch := first | assumption | omega | (simp only [szR, entC_len, entC_all, fdC_len, fdC_all, un_len] <;> omega) | rfl | decide) only [gen0, gen1, gen2, rulesM, rulesU, litR, bolR, Nat.reduceAdd, Nat.reduceLeDiff, numR, memR, valR, heapR, updR, intR, decR, extR, slR, segR, thenR, pnR, Int.reduceToNat, Int.reduceAdd, Int.reduceSub, Int.reduceLT, Int.reduceLE, Nat.reduceSub, Nat.reduceMul, Nat.reduceEqDiff, hse, hk1, entC_sub, r4]
    refine rcheck_spec fun w2 hx2 => ?_
    have hk2 := kept0 hx2
    have hs2 := hx2.size
    try simp only [szR] at hs2
    have hx2w : Ext [] w w2 := Ext.trans (S := []) (by (repeat first | assumption | exact Ext.refl | apply Ext.alloc | apply Ext.drew | (refine Ext.updN ?_ ?_; (focus first | omega | (simp only [szR] <;> omega))) | (refine Ext.updI ?_ ?_; (focus (simp; done))))) hx2 (by simp)
    by_cases hcc : checkA (fl x) k t g = 0
    · simp only [pnR', if_pos hcc] at hK
      rw [hcc]
      simp (disch := first | assumption | omega | (simp only [szR, entC_len, entC_all, fdC_len, fdC_all, un_len] <;> omega) | rfl | decide) only [gen0, gen1, gen2, rulesM, rulesU, litR, bolR, Nat.reduceAdd, Nat.reduceLeDiff, numR, memR, valR, heapR, updR, intR, decR, extR, slR, segR, thenR, pnR, Int.reduceToNat, Int.reduceAdd, Int.reduceSub, Int.reduceLT, Int.reduceLE, Nat.reduceSub, Nat.reduceMul, Nat.reduceEqDiff, hk2, hk1, hse, entC_sub]
      refine rplace_spec hfr hva fun w3 hx3 => ?_
      have hk3 := kept0 hx3
      have hs3 := hx3.size
      try simp only [szR] at hs3
      have hx3w : Ext [] w w3 := Ext.trans (S := []) (by (repeat first | assumption | exact Ext.refl | apply Ext.alloc | apply Ext.drew | (refine Ext.updN ?_ ?_; (focus first | omega | (simp only [szR] <;> omega))) | (refine Ext.updI ?_ ?_; (focus (simp; done))))) hx3 (by simp)
      simp only [plA, plC] at hK ⊢
      simp (disch := first | assumption | omega | (simp only [szR, entC_len, entC_all, fdC_len, fdC_all, un_len] <;> omega) | rfl | decide) only [gen0, gen1, gen2, rulesM, rulesU, litR, bolR, Nat.reduceAdd, Nat.reduceLeDiff, numR, memR, valR, heapR, updR, intR, decR, extR, slR, segR, thenR, pnR, Int.reduceToNat, Int.reduceAdd, Int.reduceSub, Int.reduceLT, Int.reduceLE, Nat.reduceSub, Nat.reduceMul, Nat.reduceEqDiff, hk3, hk2, hk1]
      exact hK _ (by (repeat first | assumption | exact Ext.refl | apply Ext.alloc | apply Ext.drew | (refine Ext.updN ?_ ?_; (focus first | omega | (simp only [szR] <;> omega))) | (refine Ext.updI ?_ ?_; (focus (simp; done)))))
    · simp only [pnR', if_neg hcc] at hK
      simp (disch := first | assumption | omega | (simp only [szR, entC_len, entC_all, fdC_len, fdC_all, un_len] <;> omega) | rfl | decide) only [gen0, gen1, gen2, rulesM, rulesU, litR, bolR, Nat.reduceAdd, Nat.reduceLeDiff, numR, memR, valR, heapR, updR, intR, decR, extR, slR, segR, thenR, pnR, Int.reduceToNat, Int.reduceAdd, Int.reduceSub, Int.reduceLT, Int.reduceLE, Nat.reduceSub, Nat.reduceMul, Nat.reduceEqDiff, hk2, hk1, hse, entC_sub]
      exact hK _ (by (repeat first | assumption | exact Ext.refl | apply Ext.alloc | apply Ext.drew | (refine Ext.updN ?_ ?_; (focus first | omega | (simp only [szR] <;> omega))) | (refine Ext.updI ?_ ?_; (focus (simp; done)))))
end Go.Proofs.Ytbigiabcgplkgaa
