/- The law's own example; conditions: those of each theorem. -/
import Derived.Test.YtfpcflmgipklcaaTOne
namespace Go.Proofs.Ytfpcflmgipklcaa
open Go.Fx
set_option maxRecDepth 100000
set_option linter.unusedSimpArgs false
set_option linter.unusedVariables false
def fOne : Nat → Bool := fun j => decide (j = 0) || decide (j = 1)
theorem fOne_ok : (leaf fOne && right fOne 7) = true := by decide +kernel
theorem fOne_word : bad (wd fOne 7) 0 8 = false ∧ fr (wd fOne 7) = 7 := by decide +kernel
theorem one_spec {w : World} {K : Value → World → Prop} (hK : ∀ w', Ext [] w w' → K (.bool true) w') : callsK Try.prog 22 #[] w K := by
  have hbd : ∀ w, (Instr.build 40 #[(0, .bool true), (1, .bool true), (12, .int .u64 7)]).run Try.prog w = .ok (.agg (entC fOne 7).toArray) w := fun w => run_build w 40 _ _ (by kernel_rfl)
  apply F22_ok
  unfold F22
  simp (disch := first | assumption | omega | (simp only [szR, tgC_len, tgC_all, entC_len, entC_all, plC_len, plC_all, tbC_len, tbC_all, fdC_len, fdC_all] <;> omega) | rfl | decide) only [gen0, gen1, gen2, rulesM, rulesT, litR, bolR, Nat.reduceAdd, Nat.reduceLeDiff, numR, memR, valR, heapR, updR, intR, decR, extR, slR, segR, thenR, pnR, Int.reduceToNat, Int.reduceAdd, Int.reduceSub, Int.reduceLT, Int.reduceLE, Nat.reduceSub, Nat.reduceMul, Nat.reduceEqDiff]
  refine New_spec (n := 8) (by omega) fun w1 hM1 hx1 => ?_
  have hs1 := hx1.size
  simp (disch := first | assumption | omega | (simp only [szR, tgC_len, tgC_all, entC_len, entC_all, plC_len, plC_all, tbC_len, tbC_all, fdC_len, fdC_all] <;> omega) | rfl | decide) only [gen0, gen1, gen2, rulesM, rulesT, litR, bolR, Nat.reduceAdd, Nat.reduceLeDiff, numR, memR, valR, heapR, updR, intR, decR, extR, slR, segR, thenR, pnR, Int.reduceToNat, Int.reduceAdd, Int.reduceSub, Int.reduceLT, Int.reduceLE, Nat.reduceSub, Nat.reduceMul, Nat.reduceEqDiff]
  refine pnew_spec (n := 8) (by omega) fun w2 hp2 hx2 => ?_
  simp (disch := first | assumption | omega | (simp only [szR, tgC_len, tgC_all, entC_len, entC_all, plC_len, plC_all, tbC_len, tbC_all, fdC_len, fdC_all] <;> omega) | rfl | decide) only [gen0, gen1, gen2, rulesM, rulesT, litR, bolR, Nat.reduceAdd, Nat.reduceLeDiff, numR, memR, valR, heapR, updR, intR, decR, extR, slR, segR, thenR, pnR, Int.reduceToNat, Int.reduceAdd, Int.reduceSub, Int.reduceLT, Int.reduceLE, Nat.reduceSub, Nat.reduceMul, Nat.reduceEqDiff]
  refine tnew_spec (w0 := w) (n := 8) (hM1.ext hx2 (by simp) (by simp)) hp2 (by omega) (by omega) (hx1.trans hx2 (by simp)) fun tb g3 t3 w3 h3 hT3 hO3 hL3 hv3 hk3 => ?_
  simp (disch := first | assumption | omega | (simp only [szR, tgC_len, tgC_all, entC_len, entC_all, plC_len, plC_all, tbC_len, tbC_all, fdC_len, fdC_all] <;> omega) | rfl | decide) only [gen0, gen1, gen2, rulesM, rulesT, litR, bolR, Nat.reduceAdd, Nat.reduceLeDiff, numR, memR, valR, heapR, updR, intR, decR, extR, slR, segR, thenR, pnR, Int.reduceToNat, Int.reduceAdd, Int.reduceSub, Int.reduceLT, Int.reduceLE, Nat.reduceSub, Nat.reduceMul, Nat.reduceEqDiff, joinBR, hbd, Option.isNone_some]
  refine Set_tab h3 hT3 hO3 (va := 4096) (by omega) (f := fOne) (x := 7) (by omega) (fun hb => absurd fOne_ok (by rw [hb]; simp)) (fun _ hr => absurd hr (by rw [List.headD_cons, hv3]; simp)) fun _ _ m4 g4 t4 fs4 lv4 par4 w4 h4 hT4 hO4 hl4 hr4 hlook hk4 => ?_
  rw [List.headD_cons, hv3] at hl4
  simp only [List.length_singleton, Nat.reduceAdd] at hl4
  simp (disch := first | assumption | omega | (simp only [szR, tgC_len, tgC_all, entC_len, entC_all, plC_len, plC_all, tbC_len, tbC_all, fdC_len, fdC_all] <;> omega) | rfl | decide) only [gen0, gen1, gen2, rulesM, rulesT, litR, bolR, Nat.reduceAdd, Nat.reduceLeDiff, numR, memR, valR, heapR, updR, intR, decR, extR, slR, segR, thenR, pnR, Int.reduceToNat, Int.reduceAdd, Int.reduceSub, Int.reduceLT, Int.reduceLE, Nat.reduceSub, Nat.reduceMul, Nat.reduceEqDiff]
  refine Root_tab h4 (by omega) (by rw [hr4]; decide) ?_
  rw [hr4, List.headD_cons]
  simp (disch := first | assumption | omega | (simp only [szR, tgC_len, tgC_all, entC_len, entC_all, plC_len, plC_all, tbC_len, tbC_all, fdC_len, fdC_all] <;> omega) | rfl | decide) only [gen0, gen1, gen2, rulesM, rulesT, litR, bolR, Nat.reduceAdd, Nat.reduceLeDiff, numR, memR, valR, heapR, updR, intR, decR, extR, slR, segR, thenR, pnR, Int.reduceToNat, Int.reduceAdd, Int.reduceSub, Int.reduceLT, Int.reduceLE, Nat.reduceSub, Nat.reduceMul, Nat.reduceEqDiff]
  refine walk_spec (root := 0) (va := 4100) h4.mem (by omega) (by omega) (by omega) fun w5 hx5 => ?_
  have hlk : lookW m4 0 4100 = wd fOne 7 := by
    have := hlook 4100 (by omega)
    rw [if_pos (by decide)] at this
    exact this
  have hwk : ∃ a, walkA (fun a => leN m4 a 8) 8 0 4100 = some (wd fOne 7, a) := by
    rcases walk_tab (root := 0) hT4 (by omega) hr4 (va := 4100) (by omega) with ⟨a, h1, h2⟩ | ⟨h1, h2⟩
    · rw [hlk] at h1
      exact ⟨a, h1⟩
    · rw [hlk, fOne_word.1] at h2
      cases h2
  obtain ⟨a, hwk⟩ := hwk
  rw [hwk]
  unfold wkR
  have h5 := h4.step hx5
  have hc13 : ∀ f n a, (fdC f n a)[12]? = some (.int .u64 (n : Nat)) := fun _ _ _ => rfl
  have hsp : ∀ f n a, fdC f n a ++ List.drop (fdC f n a).length [.bool false, .bool false, .bool false, .bool false, .bool false, .bool false, .bool false, .bool false, .bool false, .bool false, .bool false, .bool false, .int .u64 0, .int .u64 0] = fdC f n a := fun f n a => by rw [fdC_len]; simp [fdC]
  simp (disch := first | assumption | omega | (simp only [szR, tgC_len, tgC_all, entC_len, entC_all, plC_len, plC_all, tbC_len, tbC_all, fdC_len, fdC_all] <;> omega) | rfl | decide) only [gen0, gen1, gen2, rulesM, rulesT, litR, bolR, Nat.reduceAdd, Nat.reduceLeDiff, numR, memR, valR, heapR, updR, intR, decR, extR, slR, segR, thenR, pnR, Int.reduceToNat, Int.reduceAdd, Int.reduceSub, Int.reduceLT, Int.reduceLE, Nat.reduceSub, Nat.reduceMul, Nat.reduceEqDiff, joinBR, hsp, hc13, fOne_word.2]
  have hx0 : Ext [] w5 (w5.alloc (.cells (fdC (fl (wd fOne 7)) 7 a).toArray 59)) := Ext.alloc Ext.refl _ _
  have h6 := h5.step hx0
  refine frames_tab h6 (by omega) fun a2 c2 w6 hx6 => ?_
  simp (disch := first | assumption | omega | (simp only [szR, tgC_len, tgC_all, entC_len, entC_all, plC_len, plC_all, tbC_len, tbC_all, fdC_len, fdC_all] <;> omega) | rfl | decide) only [gen0, gen1, gen2, rulesM, rulesT, litR, bolR, Nat.reduceAdd, Nat.reduceLeDiff, numR, memR, valR, heapR, updR, intR, decR, extR, slR, segR, thenR, pnR, Int.reduceToNat, Int.reduceAdd, Int.reduceSub, Int.reduceLT, Int.reduceLE, Nat.reduceSub, Nat.reduceMul, Nat.reduceEqDiff, joinBR, hl4]
  have h7 := h6.step hx6
  refine pfree_tab h7 hT4 hO4 fun w7 hx7 => ?_
  have e5 : ((8 : Nat) : Int) - ((3 : Nat) : Int) = 5 := by decide
  rw [hl4]
  simp (disch := first | assumption | omega | (simp only [szR, tgC_len, tgC_all, entC_len, entC_all, plC_len, plC_all, tbC_len, tbC_all, fdC_len, fdC_all] <;> omega) | rfl | decide) only [gen0, gen1, gen2, rulesM, rulesT, litR, bolR, Nat.reduceAdd, Nat.reduceLeDiff, numR, memR, valR, heapR, updR, intR, decR, extR, slR, segR, thenR, pnR, Int.reduceToNat, Int.reduceAdd, Int.reduceSub, Int.reduceLT, Int.reduceLE, Nat.reduceSub, Nat.reduceMul, Nat.reduceEqDiff, joinBR, e5]
  exact hK _ (h7.step hx7).ext
end Go.Proofs.Ytfpcflmgipklcaa
