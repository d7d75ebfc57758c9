/- The pages of a table handed on; conditions: those of each theorem. -/
import Derived.Test.YtfpcflmgipklcaaTPages
import Derived.Test.YtfpcflmgipklcaaFP
import Derived.Test.YtfpcflmgipklcaaRP
namespace Go.Proofs.Ytfpcflmgipklcaa
open Go.Fx
set_option maxRecDepth 100000
set_option linter.unusedSimpArgs false
set_option linter.unusedVariables false
/-- what an entry of a table gives. -/
def pagesAt (m : Nat → Int) (l f base i : Nat) : List (Nat × Nat) := if fl (ew m f i) 0 then (match l with
  | 0 => [(base + i * 4096, ew m f i)]
  | l + 1 => pagesOf m l (fr (ew m f i)) (base + i * (4096 * 512 ^ (l + 1)))) else []
theorem pages_at (m : Nat → Int) (l f base : Nat) : pagesOf m l f base = (List.range 512).flatMap (pagesAt m l f base) := by
  cases l <;> rfl
theorem flat_pre {α : Type} (g : Nat → List α) {i n : Nat} (h : i < n) : (List.range i).flatMap g ++ g i <+: (List.range n).flatMap g := by
  have e : List.range n = List.range (i + 1) ++ (List.range (n - (i + 1))).map (fun x => i + 1 + x) := by
    rw [← List.range_add, Nat.add_sub_cancel' h]
  rw [e, List.flatMap_append, List.range_succ, List.flatMap_append]
  simp
theorem under_spec {T : List (Nat × Nat)} {w0 : World} {tb r q p n : Nat} {m g : Nat → Int} {t : Nat} {fs : List Nat} {lv : Nat → Nat} {par : Nat → Nat × Nat} (hT : Tree m n fs lv par) {to : Value} (I : List (Nat × Nat) → World → Prop) (S : World → Prop) (hI : ∀ d w, I d w → Tab w0 w tb r q p n m g t fs) (hst : ∀ d w w', I d w → Ext [] w w' → I d w')
    (hto : ∀ d w va x (K : Value → World → Prop), I d w → (d ++ [(va, x)]) <+: T → va < 18446744073709551616 → fl x 0 = true → (∀ w', I (d ++ [(va, x)]) w' → K (.bool true) w') → (∀ w', S w' → K (.bool false) w') → kN Try.prog (callN to #[.int .u64 (va : Nat), .agg (entC (fl x) (fr x)).toArray]) w K) :
    ∀ (l f base : Nat) (d : List (Nat × Nat)) (w : World) (K : Value → World → Prop), l ≤ 2 → f ∈ fs → lv f = l → base + 4096 * 512 ^ (l + 1) ≤ 18446744073709551616 → I d w → (d ++ pagesOf m l f base) <+: T → (∀ w', I (d ++ pagesOf m l f base) w' → K (.bool true) w') → (∀ w', S w' → K (.bool false) w') →
      callsK Try.prog 57 #[.pointer (some ⟨tb, 0, none⟩), .int .u64 (f : Nat), .int .u64 (base : Nat), .int .i64 (l : Nat), to] w K := by
  intro l
  induction l using Nat.strongRecOn with
  | _ l ih =>
    intro f base d w K hl2 hf hlv hbase hi hpre hK1 hK2
    apply F57_ok
    unfold F57
    simp (disch := first | assumption | omega | (simp only [szR, tgC_len, tgC_all, entC_len, entC_all, plC_len, plC_all, tbC_len, tbC_all] <;> omega) | rfl | decide) only [gen0, gen1, gen2, rulesM, rulesT, rulesP, litR, bolR, Nat.reduceAdd, Nat.reduceLeDiff, numR, memR, valR, heapR, updR, intR, decR, extR, slR, segR, thenR, pnR, Int.reduceToNat, Int.reduceAdd, Int.reduceSub, Int.reduceLT, Int.reduceLE, Nat.reduceSub, Nat.reduceMul, Nat.reduceEqDiff]
    apply F74_ok
    unfold F74
    simp (disch := first | assumption | omega | (simp only [szR, tgC_len, tgC_all, entC_len, entC_all, plC_len, plC_all, tbC_len, tbC_all] <;> omega) | rfl | decide) only [gen0, gen1, gen2, rulesM, rulesT, rulesP, litR, bolR, Nat.reduceAdd, Nat.reduceLeDiff, numR, memR, valR, heapR, updR, intR, decR, extR, slR, segR, thenR, pnR, Int.reduceToNat, Int.reduceAdd, Int.reduceSub, Int.reduceLT, Int.reduceLE, Nat.reduceSub, Nat.reduceMul, Nat.reduceEqDiff]
    refine loopT.intro (fun st w' => ∃ j : Nat, j ≤ l ∧ st = [.int .u64 (4096 * 512 ^ j : Nat), .int .i64 (j : Nat)] ∧ Ext [] w w')
      (fun st _ => match st with
        | [_, .int _ z] => l - z.toNat
        | _ => 0) ⟨0, by omega, rfl, Ext.refl⟩ ?_
    rintro st w1 ⟨j, hj, rfl, hx1⟩ _
    by_cases hjl : j < l
    · have hd : decide (((j : Nat) : Int) < (l : Int)) = true := decide_eq_true (by omega)
      have hw : IntKind.u64.wrap (((4096 * 512 ^ j : Nat) : Int) * 512) = ((4096 * 512 ^ (j + 1) : Nat) : Int) := by
        have h : j = 0 ∨ j = 1 := by omega
        rcases h with rfl | rfl <;> decide
      simp (disch := first | assumption | omega | (simp only [szR, tgC_len, tgC_all, entC_len, entC_all, plC_len, plC_all, tbC_len, tbC_all] <;> omega) | rfl | decide) only [gen0, gen1, gen2, rulesM, rulesT, rulesP, litR, bolR, Nat.reduceAdd, Nat.reduceLeDiff, numR, memR, valR, heapR, updR, intR, decR, extR, slR, segR, thenR, pnR, Int.reduceToNat, Int.reduceAdd, Int.reduceSub, Int.reduceLT, Int.reduceLE, Nat.reduceSub, Nat.reduceMul, Nat.reduceEqDiff, hd, hw]
      exact ⟨⟨j + 1, by omega, rfl, hx1⟩, by omega⟩
    have hd : decide (((j : Nat) : Int) < (l : Int)) = false := decide_eq_false (by omega)
    have hjl : j = l := by omega
    subst hjl
    simp (disch := first | assumption | omega | (simp only [szR, tgC_len, tgC_all, entC_len, entC_all, plC_len, plC_all, tbC_len, tbC_all] <;> omega) | rfl | decide) only [gen0, gen1, gen2, rulesM, rulesT, rulesP, litR, bolR, Nat.reduceAdd, Nat.reduceLeDiff, numR, memR, valR, heapR, updR, intR, decR, extR, slR, segR, thenR, pnR, Int.reduceToNat, Int.reduceAdd, Int.reduceSub, Int.reduceLT, Int.reduceLE, Nat.reduceSub, Nat.reduceMul, Nat.reduceEqDiff, hd]
    rw [pages_at] at hK1 hpre
    refine loopT.intro (fun st w' => ∃ i : Nat, i ≤ 512 ∧ st = [.int .i64 (i : Nat)] ∧ I (d ++ (List.range i).flatMap (pagesAt m j f base)) w')
      (fun st _ => match st with
        | [.int _ z] => 512 - z.toNat
        | _ => 0) ⟨0, by omega, rfl, by simpa using hst _ _ _ hi hx1⟩ ?_
    rintro st w2 ⟨i, hi5, rfl, hI2⟩ _
    by_cases h5 : i < 512
    · have hp : d ++ (List.range i).flatMap (pagesAt m j f base) ++ pagesAt m j f base i <+: T := by
        rw [List.append_assoc]
        exact List.IsPrefix.trans ((List.prefix_append_right_inj d).2 (flat_pre (pagesAt m j f base) h5)) hpre
      simp (disch := first | assumption | omega | (simp only [szR, tgC_len, tgC_all, entC_len, entC_all, plC_len, plC_all, tbC_len, tbC_all] <;> omega) | rfl | decide) only [gen0, gen1, gen2, rulesM, rulesT, rulesP, litR, bolR, Nat.reduceAdd, Nat.reduceLeDiff, numR, memR, valR, heapR, updR, intR, decR, extR, slR, segR, thenR, pnR, Int.reduceToNat, Int.reduceAdd, Int.reduceSub, Int.reduceLT, Int.reduceLE, Nat.reduceSub, Nat.reduceMul, Nat.reduceEqDiff]
      refine joinL.intro fun J4 hJ4 => ?_
      have hnext : ∀ w', I (d ++ (List.range i).flatMap (pagesAt m j f base) ++ pagesAt m j f base i) w' → J4 [] w' := by
        intro w' h
        apply hJ4
        intro _
        simp (disch := first | assumption | omega | (simp only [szR, tgC_len, tgC_all, entC_len, entC_all, plC_len, plC_all, tbC_len, tbC_all] <;> omega) | rfl | decide) only [gen0, gen1, gen2, rulesM, rulesT, rulesP, litR, bolR, Nat.reduceAdd, Nat.reduceLeDiff, numR, memR, valR, heapR, updR, intR, decR, extR, slR, segR, thenR, pnR, Int.reduceToNat, Int.reduceAdd, Int.reduceSub, Int.reduceLT, Int.reduceLE, Nat.reduceSub, Nat.reduceMul, Nat.reduceEqDiff]
        refine ⟨⟨i + 1, by omega, rfl, ?_⟩, by omega⟩
        rw [List.range_succ, List.flatMap_append, ← List.append_assoc]
        simpa using h
      simp (disch := first | assumption | omega | (simp only [szR, tgC_len, tgC_all, entC_len, entC_all, plC_len, plC_all, tbC_len, tbC_all] <;> omega) | rfl | decide) only [gen0, gen1, gen2, rulesM, rulesT, rulesP, litR, bolR, Nat.reduceAdd, Nat.reduceLeDiff, numR, memR, valR, heapR, updR, intR, decR, extR, slR, segR, thenR, pnR, Int.reduceToNat, Int.reduceAdd, Int.reduceSub, Int.reduceLT, Int.reduceLE, Nat.reduceSub, Nat.reduceMul, Nat.reduceEqDiff]
      refine tplace_spec (by have := hT.lt f hf; have := (hI _ _ hI2).num; omega) h5 ?_
      simp (disch := first | assumption | omega | (simp only [szR, tgC_len, tgC_all, entC_len, entC_all, plC_len, plC_all, tbC_len, tbC_all] <;> omega) | rfl | decide) only [gen0, gen1, gen2, rulesM, rulesT, rulesP, litR, bolR, Nat.reduceAdd, Nat.reduceLeDiff, numR, memR, valR, heapR, updR, intR, decR, extR, slR, segR, thenR, pnR, Int.reduceToNat, Int.reduceAdd, Int.reduceSub, Int.reduceLT, Int.reduceLE, Nat.reduceSub, Nat.reduceMul, Nat.reduceEqDiff]
      refine at_spec (hI _ _ hI2) (hT.lt f hf) h5 fun w3 hx3 => ?_
      simp (disch := first | assumption | omega | (simp only [szR, tgC_len, tgC_all, entC_len, entC_all, plC_len, plC_all, tbC_len, tbC_all] <;> omega) | rfl | decide) only [gen0, gen1, gen2, rulesM, rulesT, rulesP, litR, bolR, Nat.reduceAdd, Nat.reduceLeDiff, numR, memR, valR, heapR, updR, intR, decR, extR, slR, segR, thenR, pnR, Int.reduceToNat, Int.reduceAdd, Int.reduceSub, Int.reduceLT, Int.reduceLE, Nat.reduceSub, Nat.reduceMul, Nat.reduceEqDiff, ent_drop0, entC_at]
      have hc : 4096 * 512 ^ (j + 1) = 512 * (4096 * 512 ^ j) := by rw [Nat.pow_succ]; omega
      have hc2 : (i + 1) * (4096 * 512 ^ j) ≤ 512 * (4096 * 512 ^ j) := Nat.mul_le_mul_right _ (by omega)
      have hc3 : (i + 1) * (4096 * 512 ^ j) = i * (4096 * 512 ^ j) + 4096 * 512 ^ j := Nat.succ_mul _ _
      have hva : base + i * (4096 * 512 ^ j) + 4096 * 512 ^ j ≤ 18446744073709551616 := by omega
      have hpos : 0 < 4096 * 512 ^ j := Nat.mul_pos (by decide) (Nat.pow_pos (by decide))
      have hwr : IntKind.u64.wrap (((base : Nat) : Int) + IntKind.u64.wrap (((i : Nat) : Int) * ((4096 * 512 ^ j : Nat) : Int))) = ((base + i * (4096 * 512 ^ j) : Nat) : Int) := by
        obtain ⟨s, hs⟩ : ∃ s, s = i * (4096 * 512 ^ j) := ⟨_, rfl⟩
        rw [← hs] at hva ⊢
        have hs1 : IntKind.u64.wrap (((i : Nat) : Int) * ((4096 * 512 ^ j : Nat) : Int)) = ((s : Nat) : Int) := by
          rw [← Int.natCast_mul, ← hs]
          exact wrap_u64 (natU (by omega))
        rw [hs1, ← Int.natCast_add]
        exact wrap_u64 (natU (by omega))
      have hx4 : Ext [] w3 (w3.alloc (.cells (entC (fl (ew m f i)) (fr (ew m f i))).toArray 40)) := Ext.alloc Ext.refl _ _
      have hI4 := hst _ _ _ hI2 (hx3.trans hx4 (by simp))
      by_cases hv : fl (ew m f i) 0 = true
      case neg =>
        have hv := Bool.eq_false_iff.2 hv
        simp (disch := first | assumption | omega | (simp only [szR, tgC_len, tgC_all, entC_len, entC_all, plC_len, plC_all, tbC_len, tbC_all] <;> omega) | rfl | decide) only [gen0, gen1, gen2, rulesM, rulesT, rulesP, litR, bolR, Nat.reduceAdd, Nat.reduceLeDiff, numR, memR, valR, heapR, updR, intR, decR, extR, slR, segR, thenR, pnR, Int.reduceToNat, Int.reduceAdd, Int.reduceSub, Int.reduceLT, Int.reduceLE, Nat.reduceSub, Nat.reduceMul, Nat.reduceEqDiff, hv, Bool.not_false]
        refine hnext _ ?_
        unfold pagesAt
        rw [if_neg (by rw [hv]; simp), List.append_nil]
        exact hI4
      case pos =>
        unfold pagesAt at hp
        rw [if_pos hv] at hp
        rcases j with _ | j
        · simp (disch := first | assumption | omega | (simp only [szR, tgC_len, tgC_all, entC_len, entC_all, plC_len, plC_all, tbC_len, tbC_all] <;> omega) | rfl | decide) only [gen0, gen1, gen2, rulesM, rulesT, rulesP, litR, bolR, Nat.reduceAdd, Nat.reduceLeDiff, numR, memR, valR, heapR, updR, intR, decR, extR, slR, segR, thenR, pnR, Int.reduceToNat, Int.reduceAdd, Int.reduceSub, Int.reduceLT, Int.reduceLE, Nat.reduceSub, Nat.reduceMul, Nat.reduceEqDiff, hv, Bool.not_true, hwr, entC_sub]
          refine hto _ _ _ _ _ hI4 hp (by omega) hv (fun w5 h => ?_) fun w5 h => ?_
          · simp (disch := first | assumption | omega | (simp only [szR, tgC_len, tgC_all, entC_len, entC_all, plC_len, plC_all, tbC_len, tbC_all] <;> omega) | rfl | decide) only [gen0, gen1, gen2, rulesM, rulesT, rulesP, litR, bolR, Nat.reduceAdd, Nat.reduceLeDiff, numR, memR, valR, heapR, updR, intR, decR, extR, slR, segR, thenR, pnR, Int.reduceToNat, Int.reduceAdd, Int.reduceSub, Int.reduceLT, Int.reduceLE, Nat.reduceSub, Nat.reduceMul, Nat.reduceEqDiff]
            refine hnext _ ?_
            unfold pagesAt
            rw [if_pos hv]
            exact h
          · simp (disch := first | assumption | omega | (simp only [szR, tgC_len, tgC_all, entC_len, entC_all, plC_len, plC_all, tbC_len, tbC_all] <;> omega) | rfl | decide) only [gen0, gen1, gen2, rulesM, rulesT, rulesP, litR, bolR, Nat.reduceAdd, Nat.reduceLeDiff, numR, memR, valR, heapR, updR, intR, decR, extR, slR, segR, thenR, pnR, Int.reduceToNat, Int.reduceAdd, Int.reduceSub, Int.reduceLT, Int.reduceLE, Nat.reduceSub, Nat.reduceMul, Nat.reduceEqDiff]
            exact hK2 _ h
        · obtain ⟨h6, h7, -⟩ := hT.ent f hf i h5 j hlv hv
          have e1 : ((j + 1 : Nat) : Int) - 1 = (j : Int) := by omega
          simp (disch := first | assumption | omega | (simp only [szR, tgC_len, tgC_all, entC_len, entC_all, plC_len, plC_all, tbC_len, tbC_all] <;> omega) | rfl | decide) only [gen0, gen1, gen2, rulesM, rulesT, rulesP, litR, bolR, Nat.reduceAdd, Nat.reduceLeDiff, numR, memR, valR, heapR, updR, intR, decR, extR, slR, segR, thenR, pnR, Int.reduceToNat, Int.reduceAdd, Int.reduceSub, Int.reduceLT, Int.reduceLE, Nat.reduceSub, Nat.reduceMul, Nat.reduceEqDiff, hv, Bool.not_true, hwr, entC_at, e1]
          refine ih j (by omega) _ _ _ _ _ (by omega) h6 h7 (by omega) hI4 hp (fun w5 h => ?_) fun w5 h => ?_
          · simp (disch := first | assumption | omega | (simp only [szR, tgC_len, tgC_all, entC_len, entC_all, plC_len, plC_all, tbC_len, tbC_all] <;> omega) | rfl | decide) only [gen0, gen1, gen2, rulesM, rulesT, rulesP, litR, bolR, Nat.reduceAdd, Nat.reduceLeDiff, numR, memR, valR, heapR, updR, intR, decR, extR, slR, segR, thenR, pnR, Int.reduceToNat, Int.reduceAdd, Int.reduceSub, Int.reduceLT, Int.reduceLE, Nat.reduceSub, Nat.reduceMul, Nat.reduceEqDiff]
            refine hnext _ ?_
            unfold pagesAt
            rw [if_pos hv]
            exact h
          · simp (disch := first | assumption | omega | (simp only [szR, tgC_len, tgC_all, entC_len, entC_all, plC_len, plC_all, tbC_len, tbC_all] <;> omega) | rfl | decide) only [gen0, gen1, gen2, rulesM, rulesT, rulesP, litR, bolR, Nat.reduceAdd, Nat.reduceLeDiff, numR, memR, valR, heapR, updR, intR, decR, extR, slR, segR, thenR, pnR, Int.reduceToNat, Int.reduceAdd, Int.reduceSub, Int.reduceLT, Int.reduceLE, Nat.reduceSub, Nat.reduceMul, Nat.reduceEqDiff]
            exact hK2 _ h
    · have : i = 512 := by omega
      subst this
      simp (disch := first | assumption | omega | (simp only [szR, tgC_len, tgC_all, entC_len, entC_all, plC_len, plC_all, tbC_len, tbC_all] <;> omega) | rfl | decide) only [gen0, gen1, gen2, rulesM, rulesT, rulesP, litR, bolR, Nat.reduceAdd, Nat.reduceLeDiff, numR, memR, valR, heapR, updR, intR, decR, extR, slR, segR, thenR, pnR, Int.reduceToNat, Int.reduceAdd, Int.reduceSub, Int.reduceLT, Int.reduceLE, Nat.reduceSub, Nat.reduceMul, Nat.reduceEqDiff]
      exact hK1 _ hI2
end Go.Proofs.Ytfpcflmgipklcaa
