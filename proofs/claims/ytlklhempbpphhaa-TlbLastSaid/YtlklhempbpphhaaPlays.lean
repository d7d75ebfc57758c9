/- The cache of lines beside the document's, step by step; conditions: those of each theorem. -/
import Derived.Test.YtlklhempbpphhaaSets
import Derived.Test.YtlklhempbpphhaaRef2
namespace Go.Proofs.Ytlklhempbpphhaa
open Go.Fx
set_option maxRecDepth 100000
set_option linter.unusedSimpArgs false
set_option linter.unusedVariables false
/-! ### flush, clear, evict -/
theorem At.put {w w' : World} {b i : Nat} {S T : Nat → List Ln} (h : At w b (put4 S i (T i))) : At w b (put4 S i (T i)) := h
/-- the first sets' lines dropped. -/
def dropTo (p : Ln → Bool) (S : Nat → List Ln) (k : Nat) : Nat → List Ln := fun j => if j < k then (S j).filter (fun l => !p l) else S j
theorem every_spec {w : World} {b : Nat} {S : Nat → List Ln} {f : Value} {p : Ln → Bool} (hS : At w b S) (h2 : Two S) (hf : Tells f p b w) {K : Value → World → Prop}
    (hK : ∀ w', At w' b (fun j => (S j).filter (fun l => !p l)) → Ext [b] w w' → K (.tuple #[]) w') : callsK Try.prog 57 #[.pointer (some ⟨b, 0, none⟩), f] w K := by
  apply F57_ok
  unfold F57
  simp (disch := first | assumption | omega | (simp only [szR] <;> omega) | rfl | decide) only [gen0, gen1, gen2, rulesT, litR, bolR, Nat.reduceAdd, Nat.reduceLeDiff, numR, memR, valR, heapR, updR, intR, decR, extR, slR, segR, thenR, pnR, Int.reduceToNat, Int.reduceAdd, Int.reduceSub, Int.reduceLT, Int.reduceLE, Nat.reduceSub, Nat.reduceMul, Nat.reduceEqDiff, Option.isNone_some]
  refine loopT.intro (fun st w' => ∃ (k : Nat) (z : Int), k ≤ 4 ∧ st = [.int .i64 z] ∧ z = k ∧ At w' b (dropTo p S k) ∧ Ext [b] w w')
    (fun st _ => match st with
      | [.int _ z] => 4 - z.toNat
      | _ => 0) ⟨0, 0, by omega, rfl, rfl, (show dropTo p S 0 = S from funext fun j => if_neg (Nat.not_lt_zero j)) ▸ hS, Ext.refl⟩ ?_
  rintro st w' ⟨k, z, hk, rfl, rfl, hS', hx⟩ _
  have hfin : ∀ S' : Nat → List Ln, (∀ i, i < 4 → S' i = dropTo p S (k + 1) i) → tlbC S' = tlbC (dropTo p S (k + 1)) := by
    intro S' h
    simp [tlbC, h 0, h 1, h 2, h 3]
  by_cases h4 : k < 4
  · simp (disch := first | assumption | omega | (simp only [szR] <;> omega) | rfl | decide) only [gen0, gen1, gen2, rulesT, litR, bolR, Nat.reduceAdd, Nat.reduceLeDiff, numR, memR, valR, heapR, updR, intR, decR, extR, slR, segR, thenR, pnR, Int.reduceToNat, Int.reduceAdd, Int.reduceSub, Int.reduceLT, Int.reduceLE, Nat.reduceSub, Nat.reduceMul, Nat.reduceEqDiff]
    have h2' : Two (dropTo p S k) := fun i => by
      unfold dropTo
      split
      · exact Nat.le_trans (List.length_filter_le _ _) (h2 i)
      · exact h2 i
    refine dropAt_spec hS' h2' h4 (hf.mono hx) fun w2 hS2 hx2 => ?_
    simp (disch := first | assumption | omega | (simp only [szR] <;> omega) | rfl | decide) only [gen0, gen1, gen2, rulesT, litR, bolR, Nat.reduceAdd, Nat.reduceLeDiff, numR, memR, valR, heapR, updR, intR, decR, extR, slR, segR, thenR, pnR, Int.reduceToNat, Int.reduceAdd, Int.reduceSub, Int.reduceLT, Int.reduceLE, Nat.reduceSub, Nat.reduceMul, Nat.reduceEqDiff]
    refine ⟨⟨k + 1, _, by omega, rfl, by omega, ?_, hx.trans hx2 (by simp)⟩, by simp; omega⟩
    have e : put4 (dropTo p S k) k ((dropTo p S k k).filter (fun l => !p l)) = dropTo p S (k + 1) := by
      funext j
      unfold put4 dropTo
      by_cases hj : j = k
      · subst hj; simp
      · rw [if_neg hj]
        by_cases h1 : j < k
        · rw [if_pos h1, if_pos (by omega)]
        · rw [if_neg h1, if_neg (by omega)]
    rw [← e]; exact hS2
  · simp (disch := first | assumption | omega | (simp only [szR] <;> omega) | rfl | decide) only [gen0, gen1, gen2, rulesT, litR, bolR, Nat.reduceAdd, Nat.reduceLeDiff, numR, memR, valR, heapR, updR, intR, decR, extR, slR, segR, thenR, pnR, Int.reduceToNat, Int.reduceAdd, Int.reduceSub, Int.reduceLT, Int.reduceLE, Nat.reduceSub, Nat.reduceMul, Nat.reduceEqDiff]
    refine hK _ ?_ hx
    obtain ⟨E, hb⟩ := hS'
    obtain rfl : k = 4 := by omega
    refine ⟨E, ?_⟩
    have : tlbC (dropTo p S 4) = tlbC (fun j => (S j).filter (fun l => !p l)) := by simp [tlbC, dropTo]
    rw [← this]; exact hb
theorem Flush_spec {w : World} {b : Nat} {S : Nat → List Ln} {a : Int} (hS : At w b S) (h2 : Two S) {K : Value → World → Prop}
    (hK : ∀ w', At w' b (fun j => (S j).filter (fun l => !(l.a == a))) → Ext [b] w w' → K (.tuple #[]) w') : callsK Try.prog 29 #[.pointer (some ⟨b, 0, none⟩), .int .u64 a] w K := by
  have hlt := lt_of_at hS.choose_spec
  apply F29_ok
  unfold F29
  simp (disch := first | assumption | omega | (simp only [szR] <;> omega) | rfl | decide) only [gen0, gen1, gen2, rulesT, litR, bolR, Nat.reduceAdd, Nat.reduceLeDiff, numR, memR, valR, heapR, updR, intR, decR, extR, slR, segR, thenR, pnR, Int.reduceToNat, Int.reduceAdd, Int.reduceSub, Int.reduceLT, Int.reduceLE, Nat.reduceSub, Nat.reduceMul, Nat.reduceEqDiff]
  have hx1 : Ext [] w (w.alloc (.cells [.int .u64 a].toArray 22)) := by (repeat first | assumption | exact Ext.refl | apply Ext.alloc | apply Ext.drew | (refine Ext.updN ?_ ?_; (focus first | omega | (simp only [szR] <;> omega))) | (refine Ext.updI ?_ ?_; (focus (simp; done))))
  refine every_spec (p := fun l => l.a == a) (hS.ext hx1 (by simp)) h2 ?_ fun w2 hS2 hx2 => ?_
  · intro l w' K hx hK
    have h1 := hx.at (b := w.heap.size) (o := .cells [.int .u64 a].toArray 22) (by simp (disch := first | assumption | omega | (simp only [szR] <;> omega) | rfl | decide) only [gen0, gen1, gen2, rulesT, litR, bolR, Nat.reduceAdd, Nat.reduceLeDiff, numR, memR, valR, heapR, updR, intR, decR, extR, slR, segR, thenR, pnR, Int.reduceToNat, Int.reduceAdd, Int.reduceSub, Int.reduceLT, Int.reduceLE, Nat.reduceSub, Nat.reduceMul, Nat.reduceEqDiff]) (by simp; omega)
    simp (disch := first | assumption | omega | (simp only [szR] <;> omega) | rfl | decide) only [gen0, gen1, gen2, rulesT, litR, bolR, Nat.reduceAdd, Nat.reduceLeDiff, numR, memR, valR, heapR, updR, intR, decR, extR, slR, segR, thenR, pnR, Int.reduceToNat, Int.reduceAdd, Int.reduceSub, Int.reduceLT, Int.reduceLE, Nat.reduceSub, Nat.reduceMul, Nat.reduceEqDiff]
    exact flush1_spec h1 hK
  · exact hK _ hS2 ((hx1.mono (by simp)).trans hx2 (by simp))
theorem Clear_spec {w : World} {b : Nat} {S : Nat → List Ln} (hS : At w b S) (h2 : Two S) {K : Value → World → Prop}
    (hK : ∀ w', At w' b (fun _ => []) → Ext [b] w w' → K (.tuple #[]) w') : callsK Try.prog 31 #[.pointer (some ⟨b, 0, none⟩)] w K := by
  apply F31_ok
  unfold F31
  simp (disch := first | assumption | omega | (simp only [szR] <;> omega) | rfl | decide) only [gen0, gen1, gen2, rulesT, litR, bolR, Nat.reduceAdd, Nat.reduceLeDiff, numR, memR, valR, heapR, updR, intR, decR, extR, slR, segR, thenR, pnR, Int.reduceToNat, Int.reduceAdd, Int.reduceSub, Int.reduceLT, Int.reduceLE, Nat.reduceSub, Nat.reduceMul, Nat.reduceEqDiff]
  refine every_spec (p := fun _ => true) hS h2 ?_ fun w2 hS2 hx2 => ?_
  · intro l w' K hx hK
    simp (disch := first | assumption | omega | (simp only [szR] <;> omega) | rfl | decide) only [gen0, gen1, gen2, rulesT, litR, bolR, Nat.reduceAdd, Nat.reduceLeDiff, numR, memR, valR, heapR, updR, intR, decR, extR, slR, segR, thenR, pnR, Int.reduceToNat, Int.reduceAdd, Int.reduceSub, Int.reduceLT, Int.reduceLE, Nat.reduceSub, Nat.reduceMul, Nat.reduceEqDiff]
    exact clear1_spec hK
  · have e : (fun j => (S j).filter (fun l => !((fun _ => true) l))) = fun _ => [] := funext fun j => by simp
    exact hK _ (e ▸ hS2) hx2
/-- what is kept without the line of a place. -/
def evictS (S : Nat → List Ln) (place : Int) : Nat → List Ln :=
  match (upto S 4)[gone (upto S 4).length place]? with
  | some x => put4 S (x.n % 4).toNat ((S (x.n % 4).toNat).filter (fun l => !(l.a == x.a && l.n == x.n)))
  | none => S
theorem upto_top {S : Nat → List Ln} (h : Good S) : ∀ k, ∀ x ∈ upto S k, x.n < 18446744073709551616
  | 0 => by simp [upto]
  | k + 1 => fun x hx => by
    rcases List.mem_append.1 (show x ∈ upto S k ++ S k from hx) with h1 | h1
    · exact upto_top h k x h1
    · exact h.top k x h1
theorem Evict_spec {w : World} {b : Nat} {S : Nat → List Ln} {place : Int} (hS : At w b S) (hg : Good S) {K : Value → World → Prop}
    (hK : ∀ w', At w' b (evictS S place) → Ext [b] w w' → K (.tuple #[]) w') : callsK Try.prog 32 #[.pointer (some ⟨b, 0, none⟩), .int .i64 place] w K := by
  apply F32_ok
  unfold F32
  simp (disch := first | assumption | omega | (simp only [szR] <;> omega) | rfl | decide) only [gen0, gen1, gen2, rulesT, litR, bolR, Nat.reduceAdd, Nat.reduceLeDiff, numR, memR, valR, heapR, updR, intR, decR, extR, slR, segR, thenR, pnR, Int.reduceToNat, Int.reduceAdd, Int.reduceSub, Int.reduceLT, Int.reduceLE, Nat.reduceSub, Nat.reduceMul, Nat.reduceEqDiff]
  refine Lines_spec hS hg.two fun v7 w1 hown hx => ?_
  have hS1 := hS.ext hx (by simp)
  have hrows : RowsAt w1 v7 16 ((upto S 4).map lnC) := Own.rows (by rw [List.length_map]; exact hown) rfl (by simp [lnC_len])
  have hl := hrows.lenR (ty := 3) Try.underlying64
  rw [List.length_map] at hl
  have hlen : ((upto S 4).map lnC).length = (upto S 4).length := List.length_map ..
  by_cases h0 : (upto S 4).length = 0
  · simp (disch := first | assumption | omega | (simp only [szR] <;> omega) | rfl | decide) only [gen0, gen1, gen2, rulesT, litR, bolR, Nat.reduceAdd, Nat.reduceLeDiff, numR, memR, valR, heapR, updR, intR, decR, extR, slR, segR, thenR, pnR, Int.reduceToNat, Int.reduceAdd, Int.reduceSub, Int.reduceLT, Int.reduceLE, Nat.reduceSub, Nat.reduceMul, Nat.reduceEqDiff, hl]
    refine hK _ ?_ (hx.mono (by simp))
    unfold evictS
    rw [List.eq_nil_of_length_eq_zero h0]
    exact hS1
  · obtain ⟨hz, hq1, hq2⟩ := gone_eq (n := (upto S 4).length) (by omega) place
    have hgl := gone_lt (n := (upto S 4).length) (by omega) place
    have hle := upto_le hg.two 4
    unfold evictS at hK
    have hn := upto_num hg 4 _ (List.getElem_mem hgl)
    have ht := upto_top hg 4 _ (List.getElem_mem hgl)
    rw [List.getElem?_eq_getElem hgl] at hK
    obtain ⟨g, o, cap, L, E, f, he, hgb, hfit, hsub, -⟩ := hrows.row (k := gone (upto S 4).length place) (r := lnC (upto S 4)[gone (upto S 4).length place]) (by simp [hgl])
    generalize hxe : (upto S 4)[gone (upto S 4).length place] = x at hn ht hK hsub
    generalize gone (upto S 4).length place = j at hz hgl hsub hfit
    have hix : ∀ w, (Instr.indexAt 64 v7 (.int .i64 j)).run Try.prog w = .ok (.pointer (some ⟨g, o + j * 16, none⟩)) w := by
      rw [he]
      intro w
      simp (disch := first | assumption | omega | (simp only [szR] <;> omega) | rfl | decide) only [gen0, gen1, gen2, rulesT, litR, bolR, Nat.reduceAdd, Nat.reduceLeDiff, numR, memR, valR, heapR, updR, intR, decR, extR, slR, segR, thenR, pnR, Int.reduceToNat, Int.reduceAdd, Int.reduceSub, Int.reduceLT, Int.reduceLE, Nat.reduceSub, Nat.reduceMul, Nat.reduceEqDiff, hlen]
    have hS2 := hS1.ext (Ext.alloc (S := []) Ext.refl (lnC x).toArray 52) (by simp)
    simp only [lnC] at hsub hS2
    simp (disch := first | assumption | omega | (simp only [szR] <;> omega) | rfl | decide) only [gen0, gen1, gen2, rulesT, litR, bolR, Nat.reduceAdd, Nat.reduceLeDiff, numR, memR, valR, heapR, updR, intR, decR, extR, slR, segR, thenR, pnR, Int.reduceToNat, Int.reduceAdd, Int.reduceSub, Int.reduceLT, Int.reduceLE, Nat.reduceSub, Nat.reduceMul, Nat.reduceEqDiff, hl, hz, hix, hgb, hsub]
    refine Drop_spec hS2 hg.two ⟨hn.1, ht⟩ fun w3 hS3 hx3 => ?_
    refine hK _ hS3 (((hx.mono (by simp)).alloc _ _).trans hx3 (by simp))
theorem same_spec {w : World} {v r : Value} {M : List Ln} (hv : RowsAt w v 16 (M.map lnC)) (hr : RowsAt w r 3 (M.map rfC)) (hM : M.length ≤ 1000) {K : Value → World → Prop} (hK : ∀ w', Ext [] w w' → K (.bool true) w') :
    callsK Try.prog 34 #[v, r] w K := by
  apply F34_ok
  unfold F34
  have hl1 := hv.lenR (ty := 3) Try.underlying64
  have hl2 := hr.lenR (ty := 3) Try.underlying70
  rw [List.length_map] at hl1 hl2
  simp (disch := first | assumption | omega | (simp only [szR] <;> omega) | rfl | decide) only [gen0, gen1, gen2, rulesT, litR, bolR, Nat.reduceAdd, Nat.reduceLeDiff, numR, memR, valR, heapR, updR, intR, decR, extR, slR, segR, thenR, pnR, Int.reduceToNat, Int.reduceAdd, Int.reduceSub, Int.reduceLT, Int.reduceLE, Nat.reduceSub, Nat.reduceMul, Nat.reduceEqDiff, hl1, hl2]
  refine loopT.intro (fun st w' => ∃ (k : Nat) (z : Int), k ≤ M.length ∧ st = [.int .i64 z] ∧ z = k ∧ Ext [] w w')
    (fun st _ => match st with
      | [.int _ z] => M.length - z.toNat
      | _ => 0) ⟨0, 0, by omega, rfl, rfl, Ext.refl⟩ ?_
  rintro st w' ⟨k, z, hk, rfl, rfl, hx⟩ _
  by_cases hkl : k < M.length
  · obtain ⟨g, o, cap, L, E, f, he, hg, hfit, -, hget⟩ := (hv.ext hx (by simp)).row (k := k) (r := lnC M[k]) (by simp [hkl])
    obtain ⟨g', o', cap', L', E', f', he', hg', hfit', hsub', -⟩ := (hr.ext hx (by simp)).row (k := k) (r := rfC M[k]) (by simp [hkl])
    have hlen : (M.map lnC).length = M.length := List.length_map ..
    have hlen' : (M.map rfC).length = M.length := List.length_map ..
    have hix : ∀ w, (Instr.indexAt 64 v (.int .i64 k)).run Try.prog w = .ok (.pointer (some ⟨g, o + k * 16, none⟩)) w := by
      rw [he]
      intro w
      simp (disch := first | assumption | omega | (simp only [szR] <;> omega) | rfl | decide) only [gen0, gen1, gen2, rulesT, litR, bolR, Nat.reduceAdd, Nat.reduceLeDiff, numR, memR, valR, heapR, updR, intR, decR, extR, slR, segR, thenR, pnR, Int.reduceToNat, Int.reduceAdd, Int.reduceSub, Int.reduceLT, Int.reduceLE, Nat.reduceSub, Nat.reduceMul, Nat.reduceEqDiff, hlen]
    have hix' : ∀ w, (Instr.indexAt 70 r (.int .i64 k)).run Try.prog w = .ok (.pointer (some ⟨g', o' + k * 3, none⟩)) w := by
      rw [he']
      intro w
      simp (disch := first | assumption | omega | (simp only [szR] <;> omega) | rfl | decide) only [gen0, gen1, gen2, rulesT, litR, bolR, Nat.reduceAdd, Nat.reduceLeDiff, numR, memR, valR, heapR, updR, intR, decR, extR, slR, segR, thenR, pnR, Int.reduceToNat, Int.reduceAdd, Int.reduceSub, Int.reduceLT, Int.reduceLE, Nat.reduceSub, Nat.reduceMul, Nat.reduceEqDiff, hlen']
    have hg0 : ∀ p, p = o + k * 16 → L[p]? = some (.int .u64 M[k].a) := fun p hp => by rw [hget p (by omega) (by omega)]; subst hp; simp [lnC]
    have hg1 : ∀ p, p = o + k * 16 + 1 → L[p]? = some (.int .u64 M[k].n) := fun p hp => by rw [hget p (by omega) (by omega)]; subst hp; simp [show o + k * 16 + 1 - (o + k * 16) = 1 by omega, lnC]
    have hg2 : ∀ p, p = o + k * 16 + 15 → L[p]? = some (.int .u64 M[k].x) := fun p hp => by rw [hget p (by omega) (by omega)]; subst hp; simp [show o + k * 16 + 15 - (o + k * 16) = 15 by omega, lnC]
    simp only [rfC] at hsub'
    simp (disch := first | assumption | omega | (simp only [szR] <;> omega) | rfl | decide) only [gen0, gen1, gen2, rulesT, litR, bolR, Nat.reduceAdd, Nat.reduceLeDiff, numR, memR, valR, heapR, updR, intR, decR, extR, slR, segR, thenR, pnR, Int.reduceToNat, Int.reduceAdd, Int.reduceSub, Int.reduceLT, Int.reduceLE, Nat.reduceSub, Nat.reduceMul, Nat.reduceEqDiff, hl1, hix, hix', hg, hg', hg0, hg1, hg2, hsub']
    exact ⟨⟨k + 1, _, by omega, rfl, by omega, hx.drew⟩, by simp; omega⟩
  · simp (disch := first | assumption | omega | (simp only [szR] <;> omega) | rfl | decide) only [gen0, gen1, gen2, rulesT, litR, bolR, Nat.reduceAdd, Nat.reduceLeDiff, numR, memR, valR, heapR, updR, intR, decR, extR, slR, segR, thenR, pnR, Int.reduceToNat, Int.reduceAdd, Int.reduceSub, Int.reduceLT, Int.reduceLE, Nat.reduceSub, Nat.reduceMul, Nat.reduceEqDiff, hl1]
    exact hK _ hx
end Go.Proofs.Ytlklhempbpphhaa
