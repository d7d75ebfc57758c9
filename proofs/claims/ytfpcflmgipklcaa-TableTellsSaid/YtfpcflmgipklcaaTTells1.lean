/- Tables destroyed; their pages gone over; conditions: those of each theorem. -/
import Derived.Test.YtfpcflmgipklcaaTPages2
namespace Go.Proofs.Ytfpcflmgipklcaa
open Go.Fx
set_option maxRecDepth 100000
set_option linter.unusedSimpArgs false
set_option linter.unusedVariables false
theorem cnt_none {x : Nat} : ∀ {k : Nat}, (∀ i, i < k → x.testBit i = false) → cntK x k = 0
  | 0, _ => rfl
  | k + 1, h => by
    rw [cntK_succ, cnt_none fun i hi => h i (by omega), h k (by omega)]
    rfl
theorem tgone_spec {w : World} {tb r p : Nat} (h : w.heap[tb]? = some (.cells (tbC r p (.slice none 0 0)).toArray 85 (0, 0))) {K : Value → World → Prop} (hK : K (.bool true) w) : callsK Try.prog 33 #[.pointer (some ⟨tb, 0, none⟩)] w K := by
  apply F33_ok
  unfold F33
  simp (disch := first | assumption | omega | (simp only [szR, tgC_len, tgC_all, entC_len, entC_all, plC_len, plC_all, tbC_len, tbC_all] <;> omega) | rfl | decide) only [gen0, gen1, gen2, rulesM, rulesT, rulesP, litR, bolR, Nat.reduceAdd, Nat.reduceLeDiff, numR, memR, valR, heapR, updR, intR, decR, extR, slR, segR, thenR, pnR, Int.reduceToNat, Int.reduceAdd, Int.reduceSub, Int.reduceLT, Int.reduceLE, Nat.reduceSub, Nat.reduceMul, Nat.reduceEqDiff, joinBR, h, tbC_2, Option.isNone_some]
  exact hK
theorem Destroy_gone {w : World} {tb r p : Nat} (h : w.heap[tb]? = some (.cells (tbC r p (.slice none 0 0)).toArray 85 (0, 0))) {K : Value → World → Prop} (hK : K (.int .i64 1) w) : callsK Try.prog 30 #[.pointer (some ⟨tb, 0, none⟩)] w K := by
  apply F30_ok
  unfold F30
  simp (disch := first | assumption | omega | (simp only [szR, tgC_len, tgC_all, entC_len, entC_all, plC_len, plC_all, tbC_len, tbC_all] <;> omega) | rfl | decide) only [gen0, gen1, gen2, rulesM, rulesT, rulesP, litR, bolR, Nat.reduceAdd, Nat.reduceLeDiff, numR, memR, valR, heapR, updR, intR, decR, extR, slR, segR, thenR, pnR, Int.reduceToNat, Int.reduceAdd, Int.reduceSub, Int.reduceLT, Int.reduceLE, Nat.reduceSub, Nat.reduceMul, Nat.reduceEqDiff]
  refine tgone_spec h ?_
  simp (disch := first | assumption | omega | (simp only [szR, tgC_len, tgC_all, entC_len, entC_all, plC_len, plC_all, tbC_len, tbC_all] <;> omega) | rfl | decide) only [gen0, gen1, gen2, rulesM, rulesT, rulesP, litR, bolR, Nat.reduceAdd, Nat.reduceLeDiff, numR, memR, valR, heapR, updR, intR, decR, extR, slR, segR, thenR, pnR, Int.reduceToNat, Int.reduceAdd, Int.reduceSub, Int.reduceLT, Int.reduceLE, Nat.reduceSub, Nat.reduceMul, Nat.reduceEqDiff]
  exact hK
theorem Root_gone {w : World} {tb r p : Nat} (h : w.heap[tb]? = some (.cells (tbC r p (.slice none 0 0)).toArray 85 (0, 0))) {K : Value → World → Prop} (hK : K (.int .u64 0) w) : callsK Try.prog 21 #[.pointer (some ⟨tb, 0, none⟩)] w K := by
  apply F21_ok
  unfold F21
  simp (disch := first | assumption | omega | (simp only [szR, tgC_len, tgC_all, entC_len, entC_all, plC_len, plC_all, tbC_len, tbC_all] <;> omega) | rfl | decide) only [gen0, gen1, gen2, rulesM, rulesT, rulesP, litR, bolR, Nat.reduceAdd, Nat.reduceLeDiff, numR, memR, valR, heapR, updR, intR, decR, extR, slR, segR, thenR, pnR, Int.reduceToNat, Int.reduceAdd, Int.reduceSub, Int.reduceLT, Int.reduceLE, Nat.reduceSub, Nat.reduceMul, Nat.reduceEqDiff]
  refine tgone_spec h ?_
  simp (disch := first | assumption | omega | (simp only [szR, tgC_len, tgC_all, entC_len, entC_all, plC_len, plC_all, tbC_len, tbC_all] <;> omega) | rfl | decide) only [gen0, gen1, gen2, rulesM, rulesT, rulesP, litR, bolR, Nat.reduceAdd, Nat.reduceLeDiff, numR, memR, valR, heapR, updR, intR, decR, extR, slR, segR, thenR, pnR, Int.reduceToNat, Int.reduceAdd, Int.reduceSub, Int.reduceLT, Int.reduceLE, Nat.reduceSub, Nat.reduceMul, Nat.reduceEqDiff]
  exact hK
theorem Destroy_tab {w0 w : World} {tb r q p n : Nat} {m g : Nat → Int} {t : Nat} {fs : List Nat} {lv : Nat → Nat} {par : Nat → Nat × Nat} (h : Tab w0 w tb r q p n m g t fs) (hT : Tree m n fs lv par) (hO : OwnT t fs) (hfs : 0 < fs.length ∧ fs.length ≤ 64) {K : Value → World → Prop}
    (hK : ∀ t' w', t' < 18446744073709551616 → cntK t' 64 = 0 → w'.heap[tb]? = some (.cells (tbC r p (.slice none 0 0)).toArray 85 (0, 0)) → w'.heap[p]? = some (.cells (plC n t').toArray 82 (0, 0)) → Ext [] w0 w' → K (.int .i64 0) w') :
    callsK Try.prog 30 #[.pointer (some ⟨tb, 0, none⟩)] w K := by
  obtain ⟨a, c, h1, h2⟩ := h.box
  have hn := h.num
  have hpt : p ≠ tb := at_ne h.pool h1 (by decide)
  apply F30_ok
  unfold F30
  simp (disch := first | assumption | omega | (simp only [szR, tgC_len, tgC_all, entC_len, entC_all, plC_len, plC_all, tbC_len, tbC_all] <;> omega) | rfl | decide) only [gen0, gen1, gen2, rulesM, rulesT, rulesP, litR, bolR, Nat.reduceAdd, Nat.reduceLeDiff, numR, memR, valR, heapR, updR, intR, decR, extR, slR, segR, thenR, pnR, Int.reduceToNat, Int.reduceAdd, Int.reduceSub, Int.reduceLT, Int.reduceLE, Nat.reduceSub, Nat.reduceMul, Nat.reduceEqDiff]
  refine tnone_spec h hfs ?_
  simp (disch := first | assumption | omega | (simp only [szR, tgC_len, tgC_all, entC_len, entC_all, plC_len, plC_all, tbC_len, tbC_all] <;> omega) | rfl | decide) only [gen0, gen1, gen2, rulesM, rulesT, rulesP, litR, bolR, Nat.reduceAdd, Nat.reduceLeDiff, numR, memR, valR, heapR, updR, intR, decR, extR, slR, segR, thenR, pnR, Int.reduceToNat, Int.reduceAdd, Int.reduceSub, Int.reduceLT, Int.reduceLE, Nat.reduceSub, Nat.reduceMul, Nat.reduceEqDiff, h1, tbC_2]
  refine loopT.intro (fun st w' => ∃ i t' : Nat, i ≤ fs.length ∧ st = [.int .i64 (i : Nat)] ∧ t' < 18446744073709551616 ∧ (∀ j, j < 64 → t'.testBit j = (t.testBit j && !decide (j ∈ fs.take i))) ∧ w'.heap[p]? = some (.cells (plC n t').toArray 82 (0, 0)) ∧ Ext [p] w w')
    (fun st _ => match st with
      | [.int _ z] => 64 - z.toNat
      | _ => 0) ⟨0, t, Nat.zero_le _, rfl, h.bits, fun j _ => by simp, h.pool, Ext.refl⟩ ?_
  rintro st w1 ⟨i, t1, hi, rfl, ht1, hb1, hp1, hx1⟩ _
  have hbx := hx1.at h1 (by simpa using hpt.symm)
  have ho := h2.ext hx1 (fun b hb hm => by
    rw [List.mem_singleton.1 hm] at hb
    exact own_ne h2 h.pool (by decide) hb)
  by_cases hil : i < fs.length
  · obtain ⟨b, o, L, E, ff, hix, hb, hfit, hlt, hblk, hsub, hget⟩ := RowsAt.ixR (P := Try.prog) (t := 38) Try.underlying38 Try.sizeOf3 ho.rows (k := i) (r := kC fs[i]) (by simp [hil])
    have hg0 := hget o 0 (by omega) (by omega)
    simp only [kC, List.getElem?_cons_zero] at hg0
    have hix' : ∀ w, (Instr.indexAt 38 (.slice a fs.length c) (.int .i64 (i : Nat))).run Try.prog w = .ok (.pointer (some ⟨b, o, none⟩)) w := fun w => hix w .i64 i rfl
    have hm : fs[i] ∈ fs := List.getElem_mem hil
    have hin := hT.lt _ hm
    have hnt : fs[i] ∉ fs.take i := fun hq => by
      have h5 : (fs.take i ++ fs.drop i).Nodup := by rw [List.take_append_drop]; exact hT.one
      rw [List.nodup_append] at h5
      exact h5.2.2 _ hq _ (by rw [List.drop_eq_getElem_cons hil]; exact List.mem_cons_self) rfl
    simp (disch := first | assumption | omega | (simp only [szR, tgC_len, tgC_all, entC_len, entC_all, plC_len, plC_all, tbC_len, tbC_all] <;> omega) | rfl | decide) only [gen0, gen1, gen2, rulesM, rulesT, rulesP, litR, bolR, Nat.reduceAdd, Nat.reduceLeDiff, numR, memR, valR, heapR, updR, intR, decR, extR, slR, segR, thenR, pnR, Int.reduceToNat, Int.reduceAdd, Int.reduceSub, Int.reduceLT, Int.reduceLE, Nat.reduceSub, Nat.reduceMul, Nat.reduceEqDiff, hix', hb, hg0, hbx, tbC_1]
    refine Give_spec hp1 hn ht1 hin (by rw [hb1 _ (by omega), (hO _ (by omega)).2 hm]; simp [hnt]) fun t2 w2 ht2 hb2 hp2 hx2 => ?_
    simp (disch := first | assumption | omega | (simp only [szR, tgC_len, tgC_all, entC_len, entC_all, plC_len, plC_all, tbC_len, tbC_all] <;> omega) | rfl | decide) only [gen0, gen1, gen2, rulesM, rulesT, rulesP, litR, bolR, Nat.reduceAdd, Nat.reduceLeDiff, numR, memR, valR, heapR, updR, intR, decR, extR, slR, segR, thenR, pnR, Int.reduceToNat, Int.reduceAdd, Int.reduceSub, Int.reduceLT, Int.reduceLE, Nat.reduceSub, Nat.reduceMul, Nat.reduceEqDiff]
    refine ⟨⟨i + 1, t2, by omega, rfl, ht2, fun j hj => ?_, hp2, hx1.trans hx2 (by simp)⟩, by omega⟩
    rw [hb2 j hj, hb1 j hj, Bool.and_assoc]
    rw [List.take_succ_eq_append_getElem hil]
    have e : decide (j ∈ fs.take i ++ [fs[i]]) = (decide (j ∈ fs.take i) || decide (j = fs[i])) := by
      rw [Bool.eq_iff_iff]
      simp only [decide_eq_true_eq, Bool.or_eq_true, List.mem_append, List.mem_singleton]
    rw [e, Bool.not_or]
  · have : i = fs.length := by omega
    subst this
    have ltb := lt_of_at hbx
    simp (disch := first | assumption | omega | (simp only [szR, tgC_len, tgC_all, entC_len, entC_all, plC_len, plC_all, tbC_len, tbC_all] <;> omega) | rfl | decide) only [gen0, gen1, gen2, rulesM, rulesT, rulesP, litR, bolR, Nat.reduceAdd, Nat.reduceLeDiff, numR, memR, valR, heapR, updR, intR, decR, extR, slR, segR, thenR, pnR, Int.reduceToNat, Int.reduceAdd, Int.reduceSub, Int.reduceLT, Int.reduceLE, Nat.reduceSub, Nat.reduceMul, Nat.reduceEqDiff, hbx, tbC_set]
    have hxu : Ext [tb] w1 (World.upd w1 tb (tbC r p (.slice none 0 0))) := Ext.updI (by simp) Ext.refl
    refine hK t1 _ ht1 (cnt_none fun j hj => ?_) (upd_at hbx) (hxu.at hp1 (by simpa using hpt)) (extUp (extUp h.ext hx1 (fun b hb => by rw [List.mem_singleton.1 hb]; exact h.lo.2.2.1)) hxu (fun b hb => by rw [List.mem_singleton.1 hb]; exact h.lo.2.2.2))
    rw [hb1 j hj, List.take_length]
    cases h9 : t.testBit j
    · rfl
    · rw [decide_eq_true ((hO j hj).1 h9)]
      rfl
theorem pages_run {w0 w : World} {tb r q p n : Nat} {m g : Nat → Int} {t : Nat} {fs : List Nat} {lv : Nat → Nat} {par : Nat → Nat × Nat} (hT : Tree m n fs lv par) (hr : fs.headD 0 = 0) (hfs : 0 < fs.length ∧ fs.length ≤ 64) {to : Value} (I : List (Nat × Nat) → World → Prop) (S : World → Prop) (hI : ∀ d w, I d w → Tab w0 w tb r q p n m g t fs) (hst : ∀ d w w', I d w → Ext [] w w' → I d w')
    (hto : ∀ d w va x (K : Value → World → Prop), I d w → (d ++ [(va, x)]) <+: pagesOf m 2 0 0 → va < 18446744073709551616 → fl x 0 = true → (∀ w', I (d ++ [(va, x)]) w' → K (.bool true) w') → (∀ w', S w' → K (.bool false) w') → kN Try.prog (callN to #[.int .u64 (va : Nat), .agg (entC (fl x) (fr x)).toArray]) w K)
    {bx : Nat} (hbx : w.heap[bx]? = some (.cells #[.pointer (some ⟨tb, 0, none⟩)] 31 (0, 0))) (h0 : I [] w) {K : Value → World → Prop} (hK1 : ∀ w', I (pagesOf m 2 0 0) w' → K (.tuple #[]) w') (hK2 : ∀ w', S w' → K (.tuple #[]) w') :
    callsK Try.prog 56 #[to, .pointer (some ⟨bx, 0, none⟩)] w K := by
  have h := hI _ _ h0
  obtain ⟨a, c, h1, h2⟩ := h.box
  obtain ⟨f0, l0, hfs0, hf0⟩ := hT.top
  have hh : fs.headD 0 = f0 := by rw [hfs0]; rfl
  have hF : f0 ∈ fs := by rw [hfs0]; simp
  rw [hr] at hh
  subst hh
  obtain ⟨b, o, L, E, ff, hix, hb, hfit, hlt, hblk, hsub, hget⟩ := RowsAt.ixR (P := Try.prog) (t := 38) Try.underlying38 Try.sizeOf3 h2.rows (k := 0) (r := kC 0) (by rw [hfs0]; rfl)
  have hg0 := hget o 0 (by omega) (by omega)
  simp only [kC, List.getElem?_cons_zero] at hg0
  have hix' : ∀ w, (Instr.indexAt 38 (.slice a fs.length c) (.int .i64 0)).run Try.prog w = .ok (.pointer (some ⟨b, o, none⟩)) w := fun w => hix w .i64 0 rfl
  apply F56_ok
  unfold F56
  have hxd : Ext [] w w.drew := by (repeat first | assumption | exact Ext.refl | apply Ext.alloc | apply Ext.drew | (refine Ext.updN ?_ ?_; (focus first | omega | (simp only [szR] <;> omega))) | (refine Ext.updI ?_ ?_; (focus (simp; done))))
  simp (disch := first | assumption | omega | (simp only [szR, tgC_len, tgC_all, entC_len, entC_all, plC_len, plC_all, tbC_len, tbC_all] <;> omega) | rfl | decide) only [gen0, gen1, gen2, rulesM, rulesT, rulesP, litR, bolR, Nat.reduceAdd, Nat.reduceLeDiff, numR, memR, valR, heapR, updR, intR, decR, extR, slR, segR, thenR, pnR, Int.reduceToNat, Int.reduceAdd, Int.reduceSub, Int.reduceLT, Int.reduceLE, Nat.reduceSub, Nat.reduceMul, Nat.reduceEqDiff, hbx]
  refine tnone_spec h hfs ?_
  simp (disch := first | assumption | omega | (simp only [szR, tgC_len, tgC_all, entC_len, entC_all, plC_len, plC_all, tbC_len, tbC_all] <;> omega) | rfl | decide) only [gen0, gen1, gen2, rulesM, rulesT, rulesP, litR, bolR, Nat.reduceAdd, Nat.reduceLeDiff, numR, memR, valR, heapR, updR, intR, decR, extR, slR, segR, thenR, pnR, Int.reduceToNat, Int.reduceAdd, Int.reduceSub, Int.reduceLT, Int.reduceLE, Nat.reduceSub, Nat.reduceMul, Nat.reduceEqDiff, hbx, h1, tbC_2, hix', hb, hg0, Bool.not_false]
  have hu := under_spec (T := pagesOf m 2 0 0) hT I S hI hst hto 2 0 0 [] w.drew (fun v w' => K (.tuple #[]) w') (by omega) hF hf0 (by decide) (hst _ _ _ h0 hxd) (by rw [List.nil_append]; exact List.prefix_refl _) (by rw [List.nil_append]; exact hK1) hK2
  exact hu
end Go.Proofs.Ytfpcflmgipklcaa
