/- The document's memory: what a store makes lies in new blocks; conditions: those of each theorem. -/
import Derived.Test.YtbigiabcgplkgaaRefRam
import Derived.Test.YtbigiabcgplkgaaRU
namespace Go.Proofs.Ytbigiabcgplkgaa
open Go.Fx
set_option maxRecDepth 100000
set_option linter.unusedSimpArgs false
set_option linter.unusedVariables false
set_option maxHeartbeats 1000000 in
theorem rStore_spec2 {w : World} {base n c a x : Nat} {L : List Value} {m : Nat → Int} {P : List (Nat × Int)} {va vb : Value} (h : RMem w base L n m c P va vb) (hb : base ≤ w.heap.size) (hc : c ≤ 10000) (hn : n ≤ 1000) (h8 : a % 8 = 0) (ha : a < n * 4096) (hx64 : x < 18446744073709551616) {K : Value → World → Prop}
    (hK : ∀ L' P' va' vb' w', RMem w' w.heap.size L' n (stored m a 8 x) (c + 8) P' va' vb' → Ext [] w w' → K (.tuple #[.agg L'.toArray, .int .i64 0]) w') : callsK Try.prog 35 #[.agg L.toArray, .int .u64 a, .int .i64 8, .int .u64 x] w K := by
  have hval := h.val
  obtain ⟨hlen, hall, hsub⟩ := h.cells
  have hx0 : Ext [] w ((w.alloc (.cells L.toArray 28)).alloc (.cells #[.int .i64 0, .slice none 0 0, .slice none 0 0, .slice none 0 0] 28)) := by (repeat first | assumption | exact Ext.refl | apply Ext.alloc | apply Ext.drew | (refine Ext.updN ?_ ?_; (focus first | omega | (simp only [szR] <;> omega))) | (refine Ext.updI ?_ ?_; (focus (simp; done))))
  apply F35_ok
  unfold F35
  simp (disch := first | assumption | omega | (simp only [szR] <;> omega) | rfl | decide) only [gen0, gen1, gen2, rulesM, rulesU, litR, bolR, Nat.reduceAdd, Nat.reduceLeDiff, numR, memR, valR, heapR, updR, intR, decR, extR, slR, segR, thenR, pnR, Int.reduceToNat, Int.reduceAdd, Int.reduceSub, Int.reduceLT, Int.reduceLE, Nat.reduceSub, Nat.reduceMul, Nat.reduceEqDiff, hsub, hlen]
  rw [hval]
  refine rMay_spec hn h8 ha fun w1 hx1 => ?_
  rw [← hval] at hx1
  have hk1 := kept0 hx1
  have hx01 := hx0.trans hx1 (by simp)
  have hc1 : w1.heap[w.heap.size]? = some (.cells L.toArray 28 (0, 0)) := (by first | with_reducible rfl | assumption | (simp (disch := first | assumption | omega | (simp only [szR] <;> omega) | rfl | decide) only [gen0, gen1, gen2, rulesM, rulesU, litR, bolR, Nat.reduceAdd, Nat.reduceLeDiff, numR, memR, valR, heapR, updR, intR, decR, extR, slR, segR, thenR, pnR, Int.reduceToNat, Int.reduceAdd, Int.reduceSub, Int.reduceLT, Int.reduceLE, Nat.reduceSub, Nat.reduceMul, Nat.reduceEqDiff, hk1] <;> rfl))
  have hblk : P ≠ [] → ∀ b, blockOf va = some b ∨ blockOf vb = some b → b ≠ w.heap.size ∧ b ≠ w.heap.size + 1 := by
    intro h0 b hb
    have : b < w.heap.size := hb.elim (fun hb => h.rowa.blt (by simpa using h0) b hb) (fun hb => h.rowb.blt (by simpa using h0) b hb)
    omega
  have hd1 : w1.heap[w.heap.size + 1]? = some (.cells [.int .i64 0, .slice none 0 0, .slice none 0 0, .slice none 0 0].toArray 28 (0, 0)) := (by first | with_reducible rfl | assumption | (simp (disch := first | assumption | omega | (simp only [szR] <;> omega) | rfl | decide) only [gen0, gen1, gen2, rulesM, rulesU, litR, bolR, Nat.reduceAdd, Nat.reduceLeDiff, numR, memR, valR, heapR, updR, intR, decR, extR, slR, segR, thenR, pnR, Int.reduceToNat, Int.reduceAdd, Int.reduceSub, Int.reduceLT, Int.reduceLE, Nat.reduceSub, Nat.reduceMul, Nat.reduceEqDiff, hk1] <;> rfl))
  simp (disch := first | assumption | omega | (simp only [szR] <;> omega) | rfl | decide) only [gen0, gen1, gen2, rulesM, rulesU, litR, bolR, Nat.reduceAdd, Nat.reduceLeDiff, numR, memR, valR, heapR, updR, intR, decR, extR, slR, segR, thenR, pnR, Int.reduceToNat, Int.reduceAdd, Int.reduceSub, Int.reduceLT, Int.reduceLE, Nat.reduceSub, Nat.reduceMul, Nat.reduceEqDiff]
  refine loopT.intro (fun st w' => ∃ (k : Nat) (z : Int) (L' : List Value) (P' : List (Nat × Int)) (va' vb' : Value), k ≤ 8 ∧ st = [.int .i64 z] ∧ z = k ∧ w'.heap[w.heap.size]? = some (.cells L'.toArray 28 (0, 0)) ∧ w'.heap[w.heap.size + 1]? = some (.cells [.int .i64 0, .slice none 0 0, .slice none 0 0, .slice none 0 0].toArray 28 (0, 0)) ∧
      RMem w' base L' n (stored m a k x) (c + k) P' va' vb' ∧ (P' ≠ [] → ∀ b, blockOf va' = some b ∨ blockOf vb' = some b → b ≠ w.heap.size ∧ b ≠ w.heap.size + 1) ∧ (0 < k → ∀ b, blockOf va' = some b ∨ blockOf vb' = some b → w.heap.size ≤ b) ∧ Ext [] w w')
    (fun st _ => match st with
      | [.int _ z] => 8 - z.toNat
      | _ => 0) ⟨0, 0, L, P, va, vb, by omega, rfl, rfl, hc1, hd1, by rw [stored_zero]; exact h.ext hx01 (by simp), hblk, by omega, hx01⟩ ?_
  rintro st w' ⟨k, z, L', P', va', vb', hk, rfl, rfl, hc2, hd2, hr, hbk, hbf, hx⟩ _
  obtain ⟨hlen2, hall2, hsub2⟩ := hr.cells
  have l1 := lt_of_at hc2
  have l2 := lt_of_at hd2
  have hbw := hx.size
  by_cases hk8 : k < 8
  · have e1 : (a : Int) + k = ((a + k : Nat) : Int) := by omega
    have e2 : (8 * (k : Int)).toNat = 8 * k := by omega
    have hfd := fdiv_pow (v := x) (by omega) (8 * k)
    rw [Int.toNat_natCast] at hfd
    have hw8 := wrapU8 ((x / 2 ^ (8 * k) : Nat) : Int)
    have hwe : ((x / 2 ^ (8 * k) : Nat) : Int) % 256 = ((x / 2 ^ (8 * k) % 256 : Nat) : Int) := by simp
    rw [hwe] at hw8
    have hst := stored_succ m a k (x : Int)
    rw [Int.toNat_natCast] at hst
    have hq := Nat.mod_lt (x / 2 ^ (8 * k)) (show 256 > 0 by omega)
    generalize x / 2 ^ (8 * k) = q at hfd hw8 hst hq
    simp (disch := first | assumption | omega | (simp only [szR] <;> omega) | rfl | decide) only [gen0, gen1, gen2, rulesM, rulesU, litR, bolR, Nat.reduceAdd, Nat.reduceLeDiff, numR, memR, valR, heapR, updR, intR, decR, extR, slR, segR, thenR, pnR, Int.reduceToNat, Int.reduceAdd, Int.reduceSub, Int.reduceLT, Int.reduceLE, Nat.reduceSub, Nat.reduceMul, Nat.reduceEqDiff, hc2, hsub2, hlen2, e1, e2, hfd, hw8]
    refine rLay_spec hr (by omega) (by omega) (by omega) fun L3 P3 va3 vb3 w3 h3 hb3 hx3 => ?_
    rw [hst] at h3
    obtain ⟨hlen3, hall3, hsub3⟩ := h3.cells
    have hk3 := kept0 hx3
    have hc3 := hx3.at hc2 (by simp)
    have hd3 := hx3.at hd2 (by simp)
    have hs3 := hx3.size
    have hsp := splice_all (l := L') (vs := L3) (by omega)
    have hdr := drop_all (l := L') (vs := L3) (by omega)
    simp (disch := first | assumption | omega | (simp only [szR] <;> omega) | rfl | decide) only [gen0, gen1, gen2, rulesM, rulesU, litR, bolR, Nat.reduceAdd, Nat.reduceLeDiff, numR, memR, valR, heapR, updR, intR, decR, extR, slR, segR, thenR, pnR, Int.reduceToNat, Int.reduceAdd, Int.reduceSub, Int.reduceLT, Int.reduceLE, Nat.reduceSub, Nat.reduceMul, Nat.reduceEqDiff, hc3, hlen3, hall3, hsp]
    refine ⟨⟨k + 1, (k : Int) + 1, L3, P3, va3, vb3, by omega, rfl, by omega, ?_, ?_, ?_, ?_, ?_, ?_⟩, by first | omega | (simp <;> omega)⟩
    · first
        | exact congrArg (fun l : List Value => some (Obj.cells l.toArray 28 (0, 0))) hdr
        | (first | with_reducible rfl | assumption | (simp (disch := first | assumption | omega | (simp only [szR] <;> omega) | rfl | decide) only [gen0, gen1, gen2, rulesM, rulesU, litR, bolR, Nat.reduceAdd, Nat.reduceLeDiff, numR, memR, valR, heapR, updR, intR, decR, extR, slR, segR, thenR, pnR, Int.reduceToNat, Int.reduceAdd, Int.reduceSub, Int.reduceLT, Int.reduceLE, Nat.reduceSub, Nat.reduceMul, Nat.reduceEqDiff, hdr, hsp] <;> try rfl))
    · (first | with_reducible rfl | assumption | (simp (disch := first | assumption | omega | (simp only [szR] <;> omega) | rfl | decide) only [gen0, gen1, gen2, rulesM, rulesU, litR, bolR, Nat.reduceAdd, Nat.reduceLeDiff, numR, memR, valR, heapR, updR, intR, decR, extR, slR, segR, thenR, pnR, Int.reduceToNat, Int.reduceAdd, Int.reduceSub, Int.reduceLT, Int.reduceLE, Nat.reduceSub, Nat.reduceMul, Nat.reduceEqDiff, hd3] <;> try rfl))
    · refine h3.ext' (S := [w.heap.size]) (by (repeat first | assumption | exact Ext.refl | apply Ext.alloc | apply Ext.drew | (refine Ext.updN ?_ ?_; (focus first | omega | (simp only [szR] <;> omega))) | (refine Ext.updI ?_ ?_; (focus (simp; done))))) fun _ b hb hm => ?_
      have := hb3 b hb
      simp at hm
      omega
    · intro _ b hb
      have := hb3 b hb
      omega
    · intro _ b hb
      have := hb3 b hb
      omega
    · have hx4 := hx.trans hx3 (by simp)
      (repeat first | assumption | exact Ext.refl | apply Ext.alloc | apply Ext.drew | (refine Ext.updN ?_ ?_; (focus first | omega | (simp only [szR] <;> omega))) | (refine Ext.updI ?_ ?_; (focus (simp; done))))
  · obtain rfl : k = 8 := by omega
    have hsp : splice [Value.int .i64 0, .slice none 0 0, .slice none 0 0, .slice none 0 0] 0 L' = L' := splice_all (by rw [hlen2]; rfl)
    simp (disch := first | assumption | omega | (simp only [szR] <;> omega) | rfl | decide) only [gen0, gen1, gen2, rulesM, rulesU, litR, bolR, Nat.reduceAdd, Nat.reduceLeDiff, numR, memR, valR, heapR, updR, intR, decR, extR, slR, segR, thenR, pnR, Int.reduceToNat, Int.reduceAdd, Int.reduceSub, Int.reduceLT, Int.reduceLE, Nat.reduceSub, Nat.reduceMul, Nat.reduceEqDiff, hc2, hd2, hlen2, hall2, hsub2, hsp]
    have hr2 : RMem w' w.heap.size L' n (stored m a 8 x) (c + 8) P' va' vb' := ⟨hr.val, hr.rowa, hr.rowb, fun b hb => hbf (by omega) b (.inl hb), fun b hb => hbf (by omega) b (.inr hb), hr.lk, hr.len⟩
    refine hK _ _ _ _ _ (hr2.ext' (S := [w.heap.size + 1]) (by (repeat first | assumption | exact Ext.refl | apply Ext.alloc | apply Ext.drew | (refine Ext.updN ?_ ?_; (focus first | omega | (simp only [szR] <;> omega))) | (refine Ext.updI ?_ ?_; (focus (simp; done))))) ?_) (by (repeat first | assumption | exact Ext.refl | apply Ext.alloc | apply Ext.drew | (refine Ext.updN ?_ ?_; (focus first | omega | (simp only [szR] <;> omega))) | (refine Ext.updI ?_ ?_; (focus (simp; done)))))
    intro h0 b hb hm
    have := hbk h0 b hb
    simp at hm
    omega
end Go.Proofs.Ytbigiabcgplkgaa
