/- What is painted of spans, plainly; few spans; conditions: those of each theorem. -/
import Derived.Test.YtgnibcaflidjmaaSK5
namespace Go.Proofs.Ytgnibcaflidjmaa
open Go.Fx Go.ChangeShapes Go.WideShapes
set_option maxRecDepth 100000
set_option linter.unusedSimpArgs false
set_option linter.unusedVariables false
theorem spC_len (s : Nat × Nat) : (spC s).length = 2 := by simp [spC]
/-- the granules that a span paints. -/
def sp (s : Nat × Nat) (g : Nat) : Bool := mayS s && inS s g
theorem sp_small {s : Nat × Nat} {g N : Nat} (hN : N = 67108864) (hg : 256 * N ≤ g) : sp s g = false := by
  subst hN
  unfold sp mayS inS
  rw [← Bool.decide_and, decide_eq_false]
  omega
theorem or_zero (s : Nat × Nat) : wth orB (fun _ => false) s = sp s := by
  funext g
  simp [wth, orB, sp]
theorem or_two (A : Nat → Bool) (s : Nat × Nat) : wth orB A s = fun g => A g || sp s g := rfl
theorem less_two (A : Nat → Bool) (s : Nat × Nat) : wth lessB A s = fun g => A g && !sp s g := rfl
theorem or_same (s : Nat × Nat) : wth orB (sp s) s = sp s := by
  funext g
  simp [wth, orB, sp]
theorem less_same (A : Nat → Bool) (s : Nat × Nat) : wth lessB (fun g => A g && !sp s g) s = fun g => A g && !sp s g := by
  funext g
  simp only [wth, lessB, sp]
  cases A g <;> cases mayS s <;> cases inS s g <;> rfl
theorem bm_none (w : World) : Bm w none (fun _ => false) := fun _ => rfl
theorem bs2 (vs us : List Value) (h1 : vs.length = 2) (h2 : us.length = 2) (w : World) : (Instr.buildSlice 55 2 #[(0, .agg vs.toArray), (1, .agg us.toArray)]).run Try.prog w = .ok (.slice (some ⟨w.heap.size, 0, none⟩) 2 2) (w.alloc (.cells (vs ++ us).toArray 47)) := by
  have := run_bs Try.underlying55 (e := 47) (size := 2) (by kernel_rfl) [.agg vs.toArray, .agg us.toArray] (by simp [Value.cells, h1, h2]) (by simp) w
  simpa [Value.cells, partsFrom] using this
theorem one_spec {w : World} {K : Value → World → Prop} (hK : ∀ w', Ext [] w w' → K (.bool true) w') : callsK Try.prog 22 #[] w K := by
  apply F22_ok
  unfold F22
  have e1 : ∀ x : Value, sub [x] 0 1 = [x] := fun _ => rfl
  simp (disch := first | assumption | omega | (simp only [szR, tgC_len, tgC_all, tsC_len, tsC_all, spC_len] <;> omega) | rfl | decide) only [gen0, gen1, gen2, rulesV, rulesM, litR, bolR, Nat.reduceAdd, Nat.reduceLeDiff, numR, memR, valR, heapR, updR, intR, decR, extR, slR, segR, thenR, pnR, Int.reduceToNat, Int.reduceAdd, Int.reduceSub, Int.reduceLT, Int.reduceLE, Nat.reduceSub, Nat.reduceMul, Nat.reduceEqDiff, e1]
  have hx0 : Ext [] w ((w.alloc (.cells [.map none].toArray 50)).alloc (.cells [.int .u64 8, .int .u64 24].toArray 47)) := by (repeat first | assumption | exact Ext.refl | apply Ext.alloc | apply Ext.drew | (refine Ext.updN ?_ ?_; (focus first | omega | (simp only [szR] <;> omega))) | (refine Ext.updI ?_ ?_; (focus (simp; done))))
  have hrow : RowsAt ((w.alloc (.cells [.map none].toArray 50)).alloc (.cells [.int .u64 8, .int .u64 24].toArray 47)) (.slice (some ⟨w.heap.size + 1, 0, none⟩) 1 1) 2 ([((8 : Nat), (24 : Nat))].map spC) := RowsAt.one (E := 47) (f := (0, 0)) (by first | with_reducible rfl | assumption | (simp (disch := first | assumption | omega | (simp only [szR, tgC_len, tgC_all, tsC_len, tsC_all, spC_len] <;> omega) | rfl | decide) only [gen0, gen1, gen2, rulesV, rulesM, litR, bolR, Nat.reduceAdd, Nat.reduceLeDiff, numR, memR, valR, heapR, updR, intR, decR, extR, slR, segR, thenR, pnR, Int.reduceToNat, Int.reduceAdd, Int.reduceSub, Int.reduceLT, Int.reduceLE, Nat.reduceSub, Nat.reduceMul, Nat.reduceEqDiff] <;> rfl)) rfl
  refine paint_spec (bm_none _) hrow (by simp [spOk]) fun m w1 hB hx => ?_
  have hB1 : Bm w1 (some m) (sp (8, 24)) := by rw [← or_zero]; exact hB
  have hx1 := hx0.trans hx (by simp)
  have h1 := hx.at (b := w.heap.size) (o := .cells [.map none].toArray 50 (0, 0)) (by first | with_reducible rfl | assumption | (simp (disch := first | assumption | omega | (simp only [szR, tgC_len, tgC_all, tsC_len, tsC_all, spC_len] <;> omega) | rfl | decide) only [gen0, gen1, gen2, rulesV, rulesM, litR, bolR, Nat.reduceAdd, Nat.reduceLeDiff, numR, memR, valR, heapR, updR, intR, decR, extR, slR, segR, thenR, pnR, Int.reduceToNat, Int.reduceAdd, Int.reduceSub, Int.reduceLT, Int.reduceLE, Nat.reduceSub, Nat.reduceMul, Nat.reduceEqDiff] <;> rfl)) (by simp)
  have hlt := lt_of_at h1
  have e2 : ∀ x y : Value, splice [x] 0 [y] = [y] := fun _ _ => rfl
  have hN : ∀ g, 256 * 1 ≤ g → sp (8, 24) g = false := by
    intro g hg
    unfold sp inS
    rw [decide_eq_false (by omega), Bool.and_false]
  have hc : cnt (sp (8, 24)) (256 * 1) = 2 := by decide
  have hx2 : Ext [] w1 (w1.alloc (.cells [.map (some m)].toArray 50)) := by (repeat first | assumption | exact Ext.refl | apply Ext.alloc | apply Ext.drew | (refine Ext.updN ?_ ?_; (focus first | omega | (simp only [szR] <;> omega))) | (refine Ext.updI ?_ ?_; (focus (simp; done))))
  simp (disch := first | assumption | omega | (simp only [szR, tgC_len, tgC_all, tsC_len, tsC_all, spC_len] <;> omega) | rfl | decide) only [gen0, gen1, gen2, rulesV, rulesM, litR, bolR, Nat.reduceAdd, Nat.reduceLeDiff, numR, memR, valR, heapR, updR, intR, decR, extR, slR, segR, thenR, pnR, Int.reduceToNat, Int.reduceAdd, Int.reduceSub, Int.reduceLT, Int.reduceLE, Nat.reduceSub, Nat.reduceMul, Nat.reduceEqDiff, e1, e2]
  refine count_spec (hB1.ext0 hx2) hN (by decide) fun w2 hx3 => ?_
  rw [hc]
  have hx4 := hx2.trans hx3 (by simp)
  have hx5 := hx1.trans hx4 (by simp)
  have h2 := hx3.at (b := w1.heap.size) (o := .cells [.map (some m)].toArray 50 (0, 0)) (by first | with_reducible rfl | assumption | (simp (disch := first | assumption | omega | (simp only [szR, tgC_len, tgC_all, tsC_len, tsC_all, spC_len] <;> omega) | rfl | decide) only [gen0, gen1, gen2, rulesV, rulesM, litR, bolR, Nat.reduceAdd, Nat.reduceLeDiff, numR, memR, valR, heapR, updR, intR, decR, extR, slR, segR, thenR, pnR, Int.reduceToNat, Int.reduceAdd, Int.reduceSub, Int.reduceLT, Int.reduceLE, Nat.reduceSub, Nat.reduceMul, Nat.reduceEqDiff] <;> rfl)) (by simp)
  have h12 := hx4.at h1 (by simp)
  simp (disch := first | assumption | omega | (simp only [szR, tgC_len, tgC_all, tsC_len, tsC_all, spC_len] <;> omega) | rfl | decide) only [gen0, gen1, gen2, rulesV, rulesM, litR, bolR, Nat.reduceAdd, Nat.reduceLeDiff, numR, memR, valR, heapR, updR, intR, decR, extR, slR, segR, thenR, pnR, Int.reduceToNat, Int.reduceAdd, Int.reduceSub, Int.reduceLT, Int.reduceLE, Nat.reduceSub, Nat.reduceMul, Nat.reduceEqDiff, joinBR, h2, e1]
  refine has_spec (a := 31) (hB1.ext0 hx4) (by decide) fun w3 hx6 => ?_
  have q1 : sp (8, 24) (31 / 16) = true := by decide
  rw [q1]
  have h3 := hx6.at h2 (by simp)
  simp (disch := first | assumption | omega | (simp only [szR, tgC_len, tgC_all, tsC_len, tsC_all, spC_len] <;> omega) | rfl | decide) only [gen0, gen1, gen2, rulesV, rulesM, litR, bolR, Nat.reduceAdd, Nat.reduceLeDiff, numR, memR, valR, heapR, updR, intR, decR, extR, slR, segR, thenR, pnR, Int.reduceToNat, Int.reduceAdd, Int.reduceSub, Int.reduceLT, Int.reduceLE, Nat.reduceSub, Nat.reduceMul, Nat.reduceEqDiff, joinBR, h3, e1]
  refine has_spec (a := 32) (hB1.ext0 (hx4.trans hx6 (by simp))) (by decide) fun w4 hx7 => ?_
  have q2 : sp (8, 24) (32 / 16) = false := by decide
  rw [q2]
  have h14 := hx7.at (hx6.at h12 (by simp)) (by simp)
  simp (disch := first | assumption | omega | (simp only [szR, tgC_len, tgC_all, tsC_len, tsC_all, spC_len] <;> omega) | rfl | decide) only [gen0, gen1, gen2, rulesV, rulesM, litR, bolR, Nat.reduceAdd, Nat.reduceLeDiff, numR, memR, valR, heapR, updR, intR, decR, extR, slR, segR, thenR, pnR, Int.reduceToNat, Int.reduceAdd, Int.reduceSub, Int.reduceLT, Int.reduceLE, Nat.reduceSub, Nat.reduceMul, Nat.reduceEqDiff, joinBR, h14, e1, Bool.not_false]
  refine count_spec (bm_none _) (N := 1) (fun _ _ => rfl) (by decide) fun w5 hx8 => ?_
  rw [cnt_none _ fun _ _ => rfl]
  simp (disch := first | assumption | omega | (simp only [szR, tgC_len, tgC_all, tsC_len, tsC_all, spC_len] <;> omega) | rfl | decide) only [gen0, gen1, gen2, rulesV, rulesM, litR, bolR, Nat.reduceAdd, Nat.reduceLeDiff, numR, memR, valR, heapR, updR, intR, decR, extR, slR, segR, thenR, pnR, Int.reduceToNat, Int.reduceAdd, Int.reduceSub, Int.reduceLT, Int.reduceLE, Nat.reduceSub, Nat.reduceMul, Nat.reduceEqDiff, joinBR]
  exact hK _ (hx5.trans (hx6.trans (hx7.trans hx8 (by simp)) (by simp)) (by simp))

set_option maxHeartbeats 4000000 in
theorem few_spec {w : World} {v : Value} {l : List (Nat × Nat)} (ho : RowsAt w v 2 (l.map spC)) (hl : ∀ s ∈ l, 0 < s.2 ∧ s.2 ≤ 274877906944 ∧ s.1 < s.2) (hll : l.length ≤ 1000000) {K : Value → World → Prop}
    (hK : ∀ (z : Bool) w', (z = true → ∀ s ∈ l, (s.2 - 1) / 4096 - s.1 / 4096 < 64) → Ext [] w w' → K (.bool z) w') :
    callsK Try.prog 24 #[v] w K := by
  apply F24_ok
  unfold F24
  obtain ⟨a, c, rfl⟩ := ho.len
  rw [List.length_map] at ho ⊢
  refine loopT.intro (fun st w' => ∃ i : Nat, i ≤ l.length ∧ st = [.int .i64 (i : Nat)] ∧ (∀ k (h : k < l.length), k < i → (l[k].2 - 1) / 4096 - l[k].1 / 4096 < 64) ∧ Ext [] w w')
    (fun st _ => match st with
      | [.int _ y] => l.length - y.toNat
      | _ => 0) ⟨0, Nat.zero_le _, rfl, fun k h h0 => by omega, Ext.refl⟩ ?_
  rintro st w1 ⟨i, hi, rfl, hf, hx⟩ _
  have ho1 := ho.ext hx (by simp)
  by_cases hil : i < l.length
  · have d : decide (((i : Nat) : Int) < ((l.length : Nat) : Int)) = true := decide_eq_true (by omega)
    have es : ∀ w, (sizeOf 47).run Try.prog w = .ok 2 w := fun w => by kernel_rfl
    obtain ⟨b, o, L, E, f, hix, hb, hfit, -, -, -, hget⟩ := ho1.ixR (t := 55) (k := i) (r := spC l[i]) Try.underlying55 es (by simp [hil])
    have g0 : L[o]? = some (.int .u64 (l[i].1 : Nat)) := hget o 0 rfl (by omega)
    have g1 : L[o + 1]? = some (.int .u64 (l[i].2 : Nat)) := hget (o + 1) 1 rfl (by omega)
    have hix' : ∀ w, (Instr.indexAt 55 (.slice a l.length c) (.int .i64 (i : Nat))).run Try.prog w = .ok (.pointer (some ⟨b, o, none⟩)) w := fun w => hix w .i64 _ rfl
    obtain ⟨q1, q2, q3⟩ := hl l[i] (List.getElem_mem hil)
    obtain ⟨s1, hs1⟩ : ∃ s1, s1 = l[i].1 := ⟨_, rfl⟩
    obtain ⟨s2, hs2⟩ : ∃ s2, s2 = l[i].2 := ⟨_, rfl⟩
    rw [← hs1] at g0 q3
    rw [← hs2] at g1 q1 q2 q3
    have e1 : ((s2 : Nat) : Int) - 1 = ((s2 - 1 : Nat) : Int) := by omega
    have e2 : ((s2 - 1 : Nat) : Int).tdiv 4096 = (((s2 - 1) / 4096 : Nat) : Int) := by
      rw [Int.tdiv_eq_ediv_of_nonneg (by omega)]
      omega
    have e3 : ((s1 : Nat) : Int).tdiv 4096 = ((s1 / 4096 : Nat) : Int) := by
      rw [Int.tdiv_eq_ediv_of_nonneg (by omega)]
      omega
    have e4 : ((s2 - 1 : Nat) : Int) / 4096 = (((s2 - 1) / 4096 : Nat) : Int) := by omega
    have e5 : ((s1 : Nat) : Int) / 4096 = ((s1 / 4096 : Nat) : Int) := by omega
    have e6 : (((s2 - 1) / 4096 : Nat) : Int) - ((s1 / 4096 : Nat) : Int) = (((s2 - 1) / 4096 - s1 / 4096 : Nat) : Int) := by omega
    have ei : ((i : Nat) : Int) + 1 = ((i + 1 : Nat) : Int) := by omega
    by_cases h64 : 64 ≤ (s2 - 1) / 4096 - s1 / 4096
    · have d2 : decide ((64 : Int) ≤ (((s2 - 1) / 4096 - s1 / 4096 : Nat) : Int)) = true := decide_eq_true (by omega)
      simp (disch := first | assumption | omega | (simp only [szR, tgC_len, tgC_all, tsC_len, tsC_all, spC_len] <;> omega) | rfl | decide) only [gen0, gen1, gen2, rulesV, rulesM, litR, bolR, Nat.reduceAdd, Nat.reduceLeDiff, numR, memR, valR, heapR, updR, intR, decR, extR, slR, segR, thenR, pnR, Int.reduceToNat, Int.reduceAdd, Int.reduceSub, Int.reduceLT, Int.reduceLE, Nat.reduceSub, Nat.reduceMul, Nat.reduceEqDiff, joinBR, d, hix', hb, g0, g1, e1, e2, e3, e4, e5, e6, d2]
      exact hK false _ (fun e => by cases e) (hx.trans (dE _) (by simp))
    · have d2 : decide ((64 : Int) ≤ (((s2 - 1) / 4096 - s1 / 4096 : Nat) : Int)) = false := decide_eq_false (by omega)
      simp (disch := first | assumption | omega | (simp only [szR, tgC_len, tgC_all, tsC_len, tsC_all, spC_len] <;> omega) | rfl | decide) only [gen0, gen1, gen2, rulesV, rulesM, litR, bolR, Nat.reduceAdd, Nat.reduceLeDiff, numR, memR, valR, heapR, updR, intR, decR, extR, slR, segR, thenR, pnR, Int.reduceToNat, Int.reduceAdd, Int.reduceSub, Int.reduceLT, Int.reduceLE, Nat.reduceSub, Nat.reduceMul, Nat.reduceEqDiff, joinBR, d, hix', hb, g0, g1, e1, e2, e3, e4, e5, e6, d2, ei]
      exact ⟨⟨i + 1, by omega, rfl, fun k h h0 => by
        by_cases e : k = i
        · subst e
          rw [← hs1, ← hs2]
          omega
        · exact hf k h (by omega), hx.trans (dE _) (by simp)⟩, by omega⟩
  · have d : decide (((i : Nat) : Int) < ((l.length : Nat) : Int)) = false := decide_eq_false (by omega)
    simp (disch := first | assumption | omega | (simp only [szR, tgC_len, tgC_all, tsC_len, tsC_all, spC_len] <;> omega) | rfl | decide) only [gen0, gen1, gen2, rulesV, rulesM, litR, bolR, Nat.reduceAdd, Nat.reduceLeDiff, numR, memR, valR, heapR, updR, intR, decR, extR, slR, segR, thenR, pnR, Int.reduceToNat, Int.reduceAdd, Int.reduceSub, Int.reduceLT, Int.reduceLE, Nat.reduceSub, Nat.reduceMul, Nat.reduceEqDiff, joinBR, d]
    refine hK true w1 (fun _ s hs => ?_) hx
    obtain ⟨k, hk, rfl⟩ := List.getElem_of_mem hs
    exact hf k hk (by omega)
end Go.Proofs.Ytgnibcaflidjmaa
