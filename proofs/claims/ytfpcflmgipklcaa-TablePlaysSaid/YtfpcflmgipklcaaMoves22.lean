/- TableMoves; conditions: those of each theorem. -/
import Derived.Test.YtfpcflmgipklcaaTOne2
namespace Go.Proofs.Ytfpcflmgipklcaa
open Go.Fx
set_option maxRecDepth 100000
set_option linter.unusedSimpArgs false
set_option linter.unusedVariables false
theorem ent_back {f : Nat → Bool} {x : Nat} (h1 : leaf f = true) (h2 : right f x = true) : entC (fl (wd f x)) (fr (wd f x)) = entC f x ∧ leaf (fl (wd f x)) = true ∧ wd f x ≠ 0 := by
  have hf : ∀ j, j < 12 → fl (wd f x) j = f j := fun j hj => fl_wd f x j hj
  have h0 : f 0 = true := by
    unfold leaf at h1
    rw [Bool.and_eq_true] at h1
    exact h1.1
  have hx : x < 17592186044416 := by
    unfold right at h2
    rw [h0] at h2
    simp at h2
    exact h2.1.2
  refine ⟨?_, ?_, fun e => ?_⟩
  · rw [fr_wd, Nat.mod_eq_of_lt hx]
    exact entC_congr hf
  · unfold leaf at h1 ⊢
    rw [hf 0 (by omega), hf 1 (by omega), hf 2 (by omega), hf 3 (by omega)]
    exact h1
  · have := hf 0 (by omega)
    rw [e, fl_zero, h0] at this
    cases this
theorem lev_zero {m : Nat → Int} {n root va : Nat} {fs : List Nat} {lv : Nat → Nat} {par : Nat → Nat × Nat} (hT : Tree m n fs lv par) (hr : fs.headD 0 = root) (h : lookW m root va ≠ 0) : lev m root va = 0 := by
  obtain ⟨f0, l0, hfs, hf0⟩ := hT.top
  rw [hfs, List.headD_cons] at hr
  subst hr
  have hat := low_at hT (va := va) (f := f0) (by rw [hfs]; simp) hf0
  unfold lookW at h
  obtain ⟨y, hy⟩ : ∃ y, low m va 2 f0 = y := ⟨_, rfl⟩
  obtain ⟨F, l, ok⟩ := y
  rw [hy] at h hat
  cases ok
  · exact absurd rfl h
  · rw [lev_of hy]
    exact of_decide_eq_true hat.2.2.2.1.symm
theorem eqE_me (f : Nat → Bool) (n : Nat) : eqE f n f n = true := eqE_iff.2 ⟨fun _ _ => rfl, rfl⟩
theorem flip_page {V : Nat} (h : V < 274877906944) : V ^^^ 4095 < 274877906944 ∧ (V ^^^ 4095) / 4096 = V / 4096 := by
  refine ⟨Nat.xor_lt_two_pow (n := 38) h (by decide), ?_⟩
  have e : ∀ y : Nat, y / 4096 = y >>> 12 := fun y => (Nat.shiftRight_eq_div_pow y 12).symm
  rw [e, e, Nat.shiftRight_xor_distrib]
  exact Nat.xor_zero _
theorem flip_bit {V : Nat} (h : V < 274877906944) : bitI .xor .u64 ((V : Nat) : Int) 4095 = ((V ^^^ 4095 : Nat) : Int) := by
  rw [xor_u64 (by omega) (by omega), Int.toNat_natCast]
  rfl
theorem Get_at {w0 w : World} {tb r q p n : Nat} {m g : Nat → Int} {t : Nat} {fs : List Nat} {lv : Nat → Nat} {par : Nat → Nat × Nat} (h : Tab w0 w tb r q p n m g t fs) (hT : Tree m n fs lv par) (hfs : 0 < fs.length ∧ fs.length ≤ 64) (hr : fs.headD 0 = 0) {va : Nat} (hva : va < 274877906944) {f : Nat → Bool} {x : Nat} (h1 : leaf f = true) (h2 : right f x = true) (hl : lookW m 0 va = wd f x) {K : Value → World → Prop}
    (hK : ∀ w', Ext [] w w' → K (.tuple #[.agg (entC f x).toArray, .bool true]) w') : callsK Try.prog 17 #[.pointer (some ⟨tb, 0, none⟩), .int .u64 (va : Nat)] w K :=
  Get_tab h hT hfs hva fun w' hx => by
    rw [hr, hl, (ent_back h1 h2).1, if_pos (ent_back h1 h2).2.1]
    exact hK w' hx
theorem Get_no {w0 w : World} {tb r q p n : Nat} {m g : Nat → Int} {t : Nat} {fs : List Nat} {lv : Nat → Nat} {par : Nat → Nat × Nat} (h : Tab w0 w tb r q p n m g t fs) (hT : Tree m n fs lv par) (hfs : 0 < fs.length ∧ fs.length ≤ 64) (hr : fs.headD 0 = 0) {va : Nat} (hva : va < 274877906944) (hl : lookW m 0 va = 0) {K : Value → World → Prop}
    (hK : ∀ w', Ext [] w w' → K (.tuple #[.agg (entC (fun _ => false) 0).toArray, .bool false]) w') : callsK Try.prog 17 #[.pointer (some ⟨tb, 0, none⟩), .int .u64 (va : Nat)] w K :=
  Get_tab h hT hfs hva fun w' hx => by
    rw [hr, hl, if_neg (by unfold leaf; rw [fl_zero]; simp)]
    exact hK w' hx
set_option maxHeartbeats 1000000
theorem moves_spec {w : World} {va : Nat} (hva : va < 18446744073709551616) {f f2 : Nat → Bool} {x x2 : Nat} (hx : x < 18446744073709551616) (hx2 : x2 < 18446744073709551616) {K : Value → World → Prop} (hK : ∀ w', Ext [] w w' → K (.bool true) w') :
    callsK Try.prog 4 #[.int .u64 (va : Nat), .agg (entC f x).toArray, .agg (entC f2 x2).toArray] w K := by
  apply F4_ok
  unfold F4
  have hxa : Ext [] w (w.alloc (.cells (entC f x).toArray 40)) := Ext.alloc Ext.refl _ _
  have hxb : Ext [] (w.alloc (.cells (entC f x).toArray 40)) ((w.alloc (.cells (entC f x).toArray 40)).alloc (.cells (entC f2 x2).toArray 40)) := Ext.alloc Ext.refl _ _
  obtain ⟨w0, hw0⟩ : ∃ w0, w0 = (w.alloc (.cells (entC f x).toArray 40)).alloc (.cells (entC f2 x2).toArray 40) := ⟨_, rfl⟩
  have hA0 : w0.heap[w.heap.size]? = some (.cells (entC f x).toArray 40 (0, 0)) := by rw [hw0]; exact hxb.at (alloc_at rfl) (by simp)
  have hB0 : w0.heap[w.heap.size + 1]? = some (.cells (entC f2 x2).toArray 40 (0, 0)) := by rw [hw0]; exact alloc_at (by simp only [szR])
  have hw : Ext [] w w0 := by rw [hw0]; exact hxa.trans hxb (by simp)
  simp (disch := first | assumption | omega | (simp only [szR, tgC_len, tgC_all, entC_len, entC_all, plC_len, plC_all, tbC_len, tbC_all] <;> omega) | rfl | decide) only [gen0, gen1, gen2, rulesM, rulesT, litR, bolR, Nat.reduceAdd, Nat.reduceLeDiff, numR, memR, valR, heapR, updR, intR, decR, extR, slR, segR, thenR, pnR, Int.reduceToNat, Int.reduceAdd, Int.reduceSub, Int.reduceLT, Int.reduceLE, Nat.reduceSub, Nat.reduceMul, Nat.reduceEqDiff]
  rw [← hw0]
  refine New_spec (n := 8) (by omega) fun w1 hM1 hx1 => ?_
  have hs1 := hx1.size
  simp (disch := first | assumption | omega | (simp only [szR, tgC_len, tgC_all, entC_len, entC_all, plC_len, plC_all, tbC_len, tbC_all] <;> omega) | rfl | decide) only [gen0, gen1, gen2, rulesM, rulesT, litR, bolR, Nat.reduceAdd, Nat.reduceLeDiff, numR, memR, valR, heapR, updR, intR, decR, extR, slR, segR, thenR, pnR, Int.reduceToNat, Int.reduceAdd, Int.reduceSub, Int.reduceLT, Int.reduceLE, Nat.reduceSub, Nat.reduceMul, Nat.reduceEqDiff]
  refine pnew_spec (n := 8) (by omega) fun w2 hp2 hx2' => ?_
  simp (disch := first | assumption | omega | (simp only [szR, tgC_len, tgC_all, entC_len, entC_all, plC_len, plC_all, tbC_len, tbC_all] <;> omega) | rfl | decide) only [gen0, gen1, gen2, rulesM, rulesT, litR, bolR, Nat.reduceAdd, Nat.reduceLeDiff, numR, memR, valR, heapR, updR, intR, decR, extR, slR, segR, thenR, pnR, Int.reduceToNat, Int.reduceAdd, Int.reduceSub, Int.reduceLT, Int.reduceLE, Nat.reduceSub, Nat.reduceMul, Nat.reduceEqDiff]
  refine tnew_spec (w0 := w0) (n := 8) (hM1.ext hx2' (by simp) (by simp)) hp2 (by omega) (by omega) (hx1.trans hx2' (by simp)) fun tb g3 t3 w3 h3 hT3 hO3 hL3 hv3 hk3 => ?_
  have hmask : bitI .and .u64 ((va : Nat) : Int) 274877906943 = ((va % 274877906944 : Nat) : Int) := and_mask (k := .u64) (n := 38) (by decide)
  have hA : va % 274877906944 < 274877906944 := Nat.mod_lt _ (by decide)
  have hb0 : ∀ w, (Instr.build 40 #[]).run Try.prog w = .ok (.agg (entC (fun _ => false) 0).toArray) w := fun w => run_build w 40 _ _ (by kernel_rfl)
  have he3 : Ext [] w w3 := hw.trans h3.ext (by simp)
  have hA3 := hk3.1 _ _ _ (hx2'.at (hx1.at hA0 (by simp)) (by simp)) (by decide) (by decide) (by decide) (by decide)
  have hB3 := hk3.1 _ _ _ (hx2'.at (hx1.at hB0 (by simp)) (by simp)) (by decide) (by decide) (by decide) (by decide)
  simp (disch := first | assumption | omega | (simp only [szR, tgC_len, tgC_all, entC_len, entC_all, plC_len, plC_all, tbC_len, tbC_all] <;> omega) | rfl | decide) only [gen0, gen1, gen2, rulesM, rulesT, litR, bolR, Nat.reduceAdd, Nat.reduceLeDiff, numR, memR, valR, heapR, updR, intR, decR, extR, slR, segR, thenR, pnR, Int.reduceToNat, Int.reduceAdd, Int.reduceSub, Int.reduceLT, Int.reduceLE, Nat.reduceSub, Nat.reduceMul, Nat.reduceEqDiff, joinBR, Option.isNone_some, hmask, hA3, entC_sub]
  refine Leaf_spec fun w4 hx4 => ?_
  have hA4 := hx4.at hA3 (by simp)
  have hB4 := hx4.at hB3 (by simp)
  cases h1 : leaf f
  · simp (disch := first | assumption | omega | (simp only [szR, tgC_len, tgC_all, entC_len, entC_all, plC_len, plC_all, tbC_len, tbC_all] <;> omega) | rfl | decide) only [gen0, gen1, gen2, rulesM, rulesT, litR, bolR, Nat.reduceAdd, Nat.reduceLeDiff, numR, memR, valR, heapR, updR, intR, decR, extR, slR, segR, thenR, pnR, Int.reduceToNat, Int.reduceAdd, Int.reduceSub, Int.reduceLT, Int.reduceLE, Nat.reduceSub, Nat.reduceMul, Nat.reduceEqDiff, joinBR, hb0, Bool.not_false, hmask]
    refine Set_tab (h3.step hx4) hT3 hO3 (va := va % 274877906944) hA (f := fun _ => false) (x := 0) (by omega) (fun _ w9 hx9 => ?_) (fun h _ => absurd h (by decide)) (fun h _ => absurd h (by decide))
    simp (disch := first | assumption | omega | (simp only [szR, tgC_len, tgC_all, entC_len, entC_all, plC_len, plC_all, tbC_len, tbC_all] <;> omega) | rfl | decide) only [gen0, gen1, gen2, rulesM, rulesT, litR, bolR, Nat.reduceAdd, Nat.reduceLeDiff, numR, memR, valR, heapR, updR, intR, decR, extR, slR, segR, thenR, pnR, Int.reduceToNat, Int.reduceAdd, Int.reduceSub, Int.reduceLT, Int.reduceLE, Nat.reduceSub, Nat.reduceMul, Nat.reduceEqDiff, joinBR]
    refine one_spec fun w10 hx10 => ?_
    simp (disch := first | assumption | omega | (simp only [szR, tgC_len, tgC_all, entC_len, entC_all, plC_len, plC_all, tbC_len, tbC_all] <;> omega) | rfl | decide) only [gen0, gen1, gen2, rulesM, rulesT, litR, bolR, Nat.reduceAdd, Nat.reduceLeDiff, numR, memR, valR, heapR, updR, intR, decR, extR, slR, segR, thenR, pnR, Int.reduceToNat, Int.reduceAdd, Int.reduceSub, Int.reduceLT, Int.reduceLE, Nat.reduceSub, Nat.reduceMul, Nat.reduceEqDiff, joinBR]
    exact hK _ (((he3.trans hx4 (by simp)).trans hx9 (by simp)).trans hx10 (by simp))
  simp (disch := first | assumption | omega | (simp only [szR, tgC_len, tgC_all, entC_len, entC_all, plC_len, plC_all, tbC_len, tbC_all] <;> omega) | rfl | decide) only [gen0, gen1, gen2, rulesM, rulesT, litR, bolR, Nat.reduceAdd, Nat.reduceLeDiff, numR, memR, valR, heapR, updR, intR, decR, extR, slR, segR, thenR, pnR, Int.reduceToNat, Int.reduceAdd, Int.reduceSub, Int.reduceLT, Int.reduceLE, Nat.reduceSub, Nat.reduceMul, Nat.reduceEqDiff, joinBR, hA4, entC_sub, Bool.not_true]
  refine Right_spec hx fun w5 hx5 => ?_
  have hy5 := hx4.trans hx5 (by simp)
  have hA5 := hx5.at hA4 (by simp)
  have hB5 := hx5.at hB4 (by simp)
  cases h2 : right f x
  · simp (disch := first | assumption | omega | (simp only [szR, tgC_len, tgC_all, entC_len, entC_all, plC_len, plC_all, tbC_len, tbC_all] <;> omega) | rfl | decide) only [gen0, gen1, gen2, rulesM, rulesT, litR, bolR, Nat.reduceAdd, Nat.reduceLeDiff, numR, memR, valR, heapR, updR, intR, decR, extR, slR, segR, thenR, pnR, Int.reduceToNat, Int.reduceAdd, Int.reduceSub, Int.reduceLT, Int.reduceLE, Nat.reduceSub, Nat.reduceMul, Nat.reduceEqDiff, joinBR, hb0, Bool.not_false, hmask]
    refine Set_tab (h3.step hy5) hT3 hO3 (va := va % 274877906944) hA (f := fun _ => false) (x := 0) (by omega) (fun _ w9 hx9 => ?_) (fun h _ => absurd h (by decide)) (fun h _ => absurd h (by decide))
    simp (disch := first | assumption | omega | (simp only [szR, tgC_len, tgC_all, entC_len, entC_all, plC_len, plC_all, tbC_len, tbC_all] <;> omega) | rfl | decide) only [gen0, gen1, gen2, rulesM, rulesT, litR, bolR, Nat.reduceAdd, Nat.reduceLeDiff, numR, memR, valR, heapR, updR, intR, decR, extR, slR, segR, thenR, pnR, Int.reduceToNat, Int.reduceAdd, Int.reduceSub, Int.reduceLT, Int.reduceLE, Nat.reduceSub, Nat.reduceMul, Nat.reduceEqDiff, joinBR]
    refine one_spec fun w10 hx10 => ?_
    simp (disch := first | assumption | omega | (simp only [szR, tgC_len, tgC_all, entC_len, entC_all, plC_len, plC_all, tbC_len, tbC_all] <;> omega) | rfl | decide) only [gen0, gen1, gen2, rulesM, rulesT, litR, bolR, Nat.reduceAdd, Nat.reduceLeDiff, numR, memR, valR, heapR, updR, intR, decR, extR, slR, segR, thenR, pnR, Int.reduceToNat, Int.reduceAdd, Int.reduceSub, Int.reduceLT, Int.reduceLE, Nat.reduceSub, Nat.reduceMul, Nat.reduceEqDiff, joinBR]
    exact hK _ (((he3.trans hy5 (by simp)).trans hx9 (by simp)).trans hx10 (by simp))
  simp (disch := first | assumption | omega | (simp only [szR, tgC_len, tgC_all, entC_len, entC_all, plC_len, plC_all, tbC_len, tbC_all] <;> omega) | rfl | decide) only [gen0, gen1, gen2, rulesM, rulesT, litR, bolR, Nat.reduceAdd, Nat.reduceLeDiff, numR, memR, valR, heapR, updR, intR, decR, extR, slR, segR, thenR, pnR, Int.reduceToNat, Int.reduceAdd, Int.reduceSub, Int.reduceLT, Int.reduceLE, Nat.reduceSub, Nat.reduceMul, Nat.reduceEqDiff, joinBR, hB5, entC_sub, Bool.not_true]
  refine Leaf_spec fun w6 hx6 => ?_
  have hy6 := hy5.trans hx6 (by simp)
  have hA6 := hx6.at hA5 (by simp)
  have hB6 := hx6.at hB5 (by simp)
  cases h3' : leaf f2
  · simp (disch := first | assumption | omega | (simp only [szR, tgC_len, tgC_all, entC_len, entC_all, plC_len, plC_all, tbC_len, tbC_all] <;> omega) | rfl | decide) only [gen0, gen1, gen2, rulesM, rulesT, litR, bolR, Nat.reduceAdd, Nat.reduceLeDiff, numR, memR, valR, heapR, updR, intR, decR, extR, slR, segR, thenR, pnR, Int.reduceToNat, Int.reduceAdd, Int.reduceSub, Int.reduceLT, Int.reduceLE, Nat.reduceSub, Nat.reduceMul, Nat.reduceEqDiff, joinBR, hb0, Bool.not_false, hmask]
    refine Set_tab (h3.step hy6) hT3 hO3 (va := va % 274877906944) hA (f := fun _ => false) (x := 0) (by omega) (fun _ w9 hx9 => ?_) (fun h _ => absurd h (by decide)) (fun h _ => absurd h (by decide))
    simp (disch := first | assumption | omega | (simp only [szR, tgC_len, tgC_all, entC_len, entC_all, plC_len, plC_all, tbC_len, tbC_all] <;> omega) | rfl | decide) only [gen0, gen1, gen2, rulesM, rulesT, litR, bolR, Nat.reduceAdd, Nat.reduceLeDiff, numR, memR, valR, heapR, updR, intR, decR, extR, slR, segR, thenR, pnR, Int.reduceToNat, Int.reduceAdd, Int.reduceSub, Int.reduceLT, Int.reduceLE, Nat.reduceSub, Nat.reduceMul, Nat.reduceEqDiff, joinBR]
    refine one_spec fun w10 hx10 => ?_
    simp (disch := first | assumption | omega | (simp only [szR, tgC_len, tgC_all, entC_len, entC_all, plC_len, plC_all, tbC_len, tbC_all] <;> omega) | rfl | decide) only [gen0, gen1, gen2, rulesM, rulesT, litR, bolR, Nat.reduceAdd, Nat.reduceLeDiff, numR, memR, valR, heapR, updR, intR, decR, extR, slR, segR, thenR, pnR, Int.reduceToNat, Int.reduceAdd, Int.reduceSub, Int.reduceLT, Int.reduceLE, Nat.reduceSub, Nat.reduceMul, Nat.reduceEqDiff, joinBR]
    exact hK _ (((he3.trans hy6 (by simp)).trans hx9 (by simp)).trans hx10 (by simp))
  simp (disch := first | assumption | omega | (simp only [szR, tgC_len, tgC_all, entC_len, entC_all, plC_len, plC_all, tbC_len, tbC_all] <;> omega) | rfl | decide) only [gen0, gen1, gen2, rulesM, rulesT, litR, bolR, Nat.reduceAdd, Nat.reduceLeDiff, numR, memR, valR, heapR, updR, intR, decR, extR, slR, segR, thenR, pnR, Int.reduceToNat, Int.reduceAdd, Int.reduceSub, Int.reduceLT, Int.reduceLE, Nat.reduceSub, Nat.reduceMul, Nat.reduceEqDiff, joinBR, hB6, entC_sub, Bool.not_true]
  refine Right_spec hx2 fun w7 hx7 => ?_
  have hy7 := hy6.trans hx7 (by simp)
  have hA7 := hx7.at hA6 (by simp)
  have hB7 := hx7.at hB6 (by simp)
  cases h4' : right f2 x2
  · simp (disch := first | assumption | omega | (simp only [szR, tgC_len, tgC_all, entC_len, entC_all, plC_len, plC_all, tbC_len, tbC_all] <;> omega) | rfl | decide) only [gen0, gen1, gen2, rulesM, rulesT, litR, bolR, Nat.reduceAdd, Nat.reduceLeDiff, numR, memR, valR, heapR, updR, intR, decR, extR, slR, segR, thenR, pnR, Int.reduceToNat, Int.reduceAdd, Int.reduceSub, Int.reduceLT, Int.reduceLE, Nat.reduceSub, Nat.reduceMul, Nat.reduceEqDiff, joinBR, hb0, Bool.not_false, hmask]
    refine Set_tab (h3.step hy7) hT3 hO3 (va := va % 274877906944) hA (f := fun _ => false) (x := 0) (by omega) (fun _ w9 hx9 => ?_) (fun h _ => absurd h (by decide)) (fun h _ => absurd h (by decide))
    simp (disch := first | assumption | omega | (simp only [szR, tgC_len, tgC_all, entC_len, entC_all, plC_len, plC_all, tbC_len, tbC_all] <;> omega) | rfl | decide) only [gen0, gen1, gen2, rulesM, rulesT, litR, bolR, Nat.reduceAdd, Nat.reduceLeDiff, numR, memR, valR, heapR, updR, intR, decR, extR, slR, segR, thenR, pnR, Int.reduceToNat, Int.reduceAdd, Int.reduceSub, Int.reduceLT, Int.reduceLE, Nat.reduceSub, Nat.reduceMul, Nat.reduceEqDiff, joinBR]
    refine one_spec fun w10 hx10 => ?_
    simp (disch := first | assumption | omega | (simp only [szR, tgC_len, tgC_all, entC_len, entC_all, plC_len, plC_all, tbC_len, tbC_all] <;> omega) | rfl | decide) only [gen0, gen1, gen2, rulesM, rulesT, litR, bolR, Nat.reduceAdd, Nat.reduceLeDiff, numR, memR, valR, heapR, updR, intR, decR, extR, slR, segR, thenR, pnR, Int.reduceToNat, Int.reduceAdd, Int.reduceSub, Int.reduceLT, Int.reduceLE, Nat.reduceSub, Nat.reduceMul, Nat.reduceEqDiff, joinBR]
    exact hK _ (((he3.trans hy7 (by simp)).trans hx9 (by simp)).trans hx10 (by simp))
  simp (disch := first | assumption | omega | (simp only [szR, tgC_len, tgC_all, entC_len, entC_all, plC_len, plC_all, tbC_len, tbC_all] <;> omega) | rfl | decide) only [gen0, gen1, gen2, rulesM, rulesT, litR, bolR, Nat.reduceAdd, Nat.reduceLeDiff, numR, memR, valR, heapR, updR, intR, decR, extR, slR, segR, thenR, pnR, Int.reduceToNat, Int.reduceAdd, Int.reduceSub, Int.reduceLT, Int.reduceLE, Nat.reduceSub, Nat.reduceMul, Nat.reduceEqDiff, joinBR, hA7, entC_sub, Bool.not_true, hmask]
  have e5 : ((8 : Nat) : Int) - ((3 : Nat) : Int) = 5 := by decide
  have hlr : (leaf f && right f x) = true := by rw [h1, h2]; rfl
  have hlr2 : (leaf f2 && right f2 x2) = true := by rw [h3', h4']; rfl
  refine Set_tab (h3.step hy7) hT3 hO3 hA (f := f) (x := x) hx (fun hb => absurd hlr (by rw [hb]; simp)) (fun _ hr => absurd hr (by rw [List.headD_cons, hv3]; simp)) fun _ _ m4 g4 t4 fs4 lv4 par4 w8 t8 hT4 hO4 hl4 hr4 hlook4 hk8 => ?_
  rw [List.headD_cons, hv3] at hl4
  simp only [List.length_singleton, Nat.reduceAdd] at hl4
  replace hr4 : fs4.headD 0 = 0 := hr4
  have hA8 := hk8.1 _ _ _ hA7 (by decide) (by decide) (by decide) (by decide)
  have hB8 := hk8.1 _ _ _ hB7 (by decide) (by decide) (by decide) (by decide)
  have hlk4 : lookW m4 0 (va % 274877906944) = wd f x := by
    have := hlook4 _ (Nat.lt_trans hA (by omega))
    rw [if_pos rfl] at this
    exact this
  simp (disch := first | assumption | omega | (simp only [szR, tgC_len, tgC_all, entC_len, entC_all, plC_len, plC_all, tbC_len, tbC_all] <;> omega) | rfl | decide) only [gen0, gen1, gen2, rulesM, rulesT, litR, bolR, Nat.reduceAdd, Nat.reduceLeDiff, numR, memR, valR, heapR, updR, intR, decR, extR, slR, segR, thenR, pnR, Int.reduceToNat, Int.reduceAdd, Int.reduceSub, Int.reduceLT, Int.reduceLE, Nat.reduceSub, Nat.reduceMul, Nat.reduceEqDiff, joinBR]
  refine pfree_tab t8 hT4 hO4 fun w9 hx9 => ?_
  rw [hl4]
  simp (disch := first | assumption | omega | (simp only [szR, tgC_len, tgC_all, entC_len, entC_all, plC_len, plC_all, tbC_len, tbC_all] <;> omega) | rfl | decide) only [gen0, gen1, gen2, rulesM, rulesT, litR, bolR, Nat.reduceAdd, Nat.reduceLeDiff, numR, memR, valR, heapR, updR, intR, decR, extR, slR, segR, thenR, pnR, Int.reduceToNat, Int.reduceAdd, Int.reduceSub, Int.reduceLT, Int.reduceLE, Nat.reduceSub, Nat.reduceMul, Nat.reduceEqDiff, joinBR, e5]
  have t9 := t8.step hx9
  refine Get_at t9 hT4 (by omega) hr4 hA h1 h2 hlk4 fun w10 hx10 => ?_
  have t10 := t9.step hx10
  have hA10 := hx10.at (hx9.at hA8 (by simp)) (by simp)
  have hB10 := hx10.at (hx9.at hB8 (by simp)) (by simp)
  have l10 := lt_of_at hA10
  have l11 := lt_of_at hB10
  simp (disch := first | assumption | omega | (simp only [szR, tgC_len, tgC_all, entC_len, entC_all, plC_len, plC_all, tbC_len, tbC_all] <;> omega) | rfl | decide) only [gen0, gen1, gen2, rulesM, rulesT, litR, bolR, Nat.reduceAdd, Nat.reduceLeDiff, numR, memR, valR, heapR, updR, intR, decR, extR, slR, segR, thenR, pnR, Int.reduceToNat, Int.reduceAdd, Int.reduceSub, Int.reduceLT, Int.reduceLE, Nat.reduceSub, Nat.reduceMul, Nat.reduceEqDiff, joinBR, ent_drop0, hB10, entC_sub]
  have hx11 : Ext [] w10 (w10.alloc (.cells (entC f x).toArray 40)) := Ext.alloc Ext.refl _ _
  have hX11 : (w10.alloc (.cells (entC f x).toArray 40)).heap[w10.heap.size]? = some (.cells (entC f x).toArray 40 (0, 0)) := alloc_at rfl
  refine Set_tab (t10.step hx11) hT4 hO4 hA (f := f2) (x := x2) hx2 (fun hb => absurd hlr2 (by rw [hb]; simp)) (fun _ hr => absurd hr (by rw [hr4, lev_zero hT4 hr4 (by rw [hlk4]; exact (ent_back h1 h2).2.2), hl4]; omega)) fun _ _ m5 g5 t5 fs5 lv5 par5 w12 t12 hT5 hO5 hl5 hr5 hlook5 hk12 => ?_
  rw [hr4, lev_zero hT4 hr4 (by rw [hlk4]; exact (ent_back h1 h2).2.2), hl4] at hl5
  rw [hr4] at hr5 hlook5
  have hA12 := hk12.1 _ _ _ (hx11.at hA10 (by simp)) (by decide) (by decide) (by decide) (by decide)
  have hB12 := hk12.1 _ _ _ (hx11.at hB10 (by simp)) (by decide) (by decide) (by decide) (by decide)
  have hX12 := hk12.1 _ _ _ hX11 (by decide) (by decide) (by decide) (by decide)
  have hlk5 : lookW m5 0 (va % 274877906944) = wd f2 x2 := by
    have := hlook5 _ (Nat.lt_trans hA (by omega))
    rw [if_pos rfl] at this
    exact this
  simp (disch := first | assumption | omega | (simp only [szR, tgC_len, tgC_all, entC_len, entC_all, plC_len, plC_all, tbC_len, tbC_all] <;> omega) | rfl | decide) only [gen0, gen1, gen2, rulesM, rulesT, litR, bolR, Nat.reduceAdd, Nat.reduceLeDiff, numR, memR, valR, heapR, updR, intR, decR, extR, slR, segR, thenR, pnR, Int.reduceToNat, Int.reduceAdd, Int.reduceSub, Int.reduceLT, Int.reduceLE, Nat.reduceSub, Nat.reduceMul, Nat.reduceEqDiff, joinBR]
  refine pfree_tab t12 hT5 hO5 fun w13 hx13 => ?_
  rw [hl5]
  simp (disch := first | assumption | omega | (simp only [szR, tgC_len, tgC_all, entC_len, entC_all, plC_len, plC_all, tbC_len, tbC_all] <;> omega) | rfl | decide) only [gen0, gen1, gen2, rulesM, rulesT, litR, bolR, Nat.reduceAdd, Nat.reduceLeDiff, numR, memR, valR, heapR, updR, intR, decR, extR, slR, segR, thenR, pnR, Int.reduceToNat, Int.reduceAdd, Int.reduceSub, Int.reduceLT, Int.reduceLE, Nat.reduceSub, Nat.reduceMul, Nat.reduceEqDiff, joinBR, e5]
  have t13 := t12.step hx13
  refine Get_at t13 hT5 (by omega) hr5 hA h3' h4' hlk5 fun w14 hx14 => ?_
  have hy14 := hx13.trans hx14 (by simp)
  have t14 := t13.step hx14
  have hA14 := hy14.at hA12 (by simp)
  have hB14 := hy14.at hB12 (by simp)
  have hX14 := hy14.at hX12 (by simp)
  simp (disch := first | assumption | omega | (simp only [szR, tgC_len, tgC_all, entC_len, entC_all, plC_len, plC_all, tbC_len, tbC_all] <;> omega) | rfl | decide) only [gen0, gen1, gen2, rulesM, rulesT, litR, bolR, Nat.reduceAdd, Nat.reduceLeDiff, numR, memR, valR, heapR, updR, intR, decR, extR, slR, segR, thenR, pnR, Int.reduceToNat, Int.reduceAdd, Int.reduceSub, Int.reduceLT, Int.reduceLE, Nat.reduceSub, Nat.reduceMul, Nat.reduceEqDiff, joinBR, ent_drop0]
  have hx15 : Ext [] w14 (w14.alloc (.cells (entC f2 x2).toArray 40)) := Ext.alloc Ext.refl _ _
  have hY15 : (w14.alloc (.cells (entC f2 x2).toArray 40)).heap[w14.heap.size]? = some (.cells (entC f2 x2).toArray 40 (0, 0)) := alloc_at rfl
  refine Clear_tab (t14.step hx15) hT5 (by omega) hA fun m6 g6 w16 t16 hT6 hlook6 hlow6 hk16 => ?_
  rw [hr5] at hlook6 hlow6
  have hA16 := hk16.1 _ _ _ (hx15.at hA14 (by simp)) (by decide) (by decide) (by decide) (by decide)
  have hB16 := hk16.1 _ _ _ (hx15.at hB14 (by simp)) (by decide) (by decide) (by decide) (by decide)
  have hX16 := hk16.1 _ _ _ (hx15.at hX14 (by simp)) (by decide) (by decide) (by decide) (by decide)
  have hY16 := hk16.1 _ _ _ hY15 (by decide) (by decide) (by decide) (by decide)
  have hlk6 : lookW m6 0 (va % 274877906944) = 0 := by
    have := hlook6 _ (Nat.lt_trans hA (by omega))
    rw [if_pos rfl] at this
    exact this
  have hlv6 : lev m6 0 (va % 274877906944) = 0 := by
    have h := lev_zero hT5 hr5 (va := va % 274877906944) (by rw [hlk5]; exact (ent_back h3' h4').2.2)
    unfold lev at h ⊢
    rw [hlow6]
    exact h
  simp (disch := first | assumption | omega | (simp only [szR, tgC_len, tgC_all, entC_len, entC_all, plC_len, plC_all, tbC_len, tbC_all] <;> omega) | rfl | decide) only [gen0, gen1, gen2, rulesM, rulesT, litR, bolR, Nat.reduceAdd, Nat.reduceLeDiff, numR, memR, valR, heapR, updR, intR, decR, extR, slR, segR, thenR, pnR, Int.reduceToNat, Int.reduceAdd, Int.reduceSub, Int.reduceLT, Int.reduceLE, Nat.reduceSub, Nat.reduceMul, Nat.reduceEqDiff, joinBR]
  refine pfree_tab t16 hT6 hO5 fun w17 hx17 => ?_
  rw [hl5]
  simp (disch := first | assumption | omega | (simp only [szR, tgC_len, tgC_all, entC_len, entC_all, plC_len, plC_all, tbC_len, tbC_all] <;> omega) | rfl | decide) only [gen0, gen1, gen2, rulesM, rulesT, litR, bolR, Nat.reduceAdd, Nat.reduceLeDiff, numR, memR, valR, heapR, updR, intR, decR, extR, slR, segR, thenR, pnR, Int.reduceToNat, Int.reduceAdd, Int.reduceSub, Int.reduceLT, Int.reduceLE, Nat.reduceSub, Nat.reduceMul, Nat.reduceEqDiff, joinBR, e5]
  have t17 := t16.step hx17
  refine Get_no t17 hT6 (by omega) hr5 hA hlk6 fun w18 hx18 => ?_
  have hy18 := hx17.trans hx18 (by simp)
  have t18 := t17.step hx18
  have hA18 := hy18.at hA16 (by simp)
  have hB18 := hy18.at hB16 (by simp)
  have hX18 := hy18.at hX16 (by simp)
  have hY18 := hy18.at hY16 (by simp)
  have l18 := lt_of_at hA18
  simp (disch := first | assumption | omega | (simp only [szR, tgC_len, tgC_all, entC_len, entC_all, plC_len, plC_all, tbC_len, tbC_all] <;> omega) | rfl | decide) only [gen0, gen1, gen2, rulesM, rulesT, litR, bolR, Nat.reduceAdd, Nat.reduceLeDiff, numR, memR, valR, heapR, updR, intR, decR, extR, slR, segR, thenR, pnR, Int.reduceToNat, Int.reduceAdd, Int.reduceSub, Int.reduceLT, Int.reduceLE, Nat.reduceSub, Nat.reduceMul, Nat.reduceEqDiff, joinBR, ent_drop0, hA18, entC_sub]
  have hx19 : Ext [] w18 (w18.alloc (.cells (entC (fun _ => false) 0).toArray 40)) := Ext.alloc Ext.refl _ _
  refine Set_tab (t18.step hx19) hT6 hO5 hA (f := f) (x := x) hx (fun hb => absurd hlr (by rw [hb]; simp)) (fun _ hr => absurd hr (by rw [hr5, hlv6, hl5]; omega)) fun _ _ m7 g7 t7 fs7 lv7 par7 w20 t20 hT7 hO7 hl7 hr7 hlook7 hk20 => ?_
  rw [hr5, hlv6, hl5] at hl7
  rw [hr5] at hr7 hlook7
  have hA20 := hk20.1 _ _ _ (hx19.at hA18 (by simp)) (by decide) (by decide) (by decide) (by decide)
  have hB20 := hk20.1 _ _ _ (hx19.at hB18 (by simp)) (by decide) (by decide) (by decide) (by decide)
  have hX20 := hk20.1 _ _ _ (hx19.at hX18 (by simp)) (by decide) (by decide) (by decide) (by decide)
  have hY20 := hk20.1 _ _ _ (hx19.at hY18 (by simp)) (by decide) (by decide) (by decide) (by decide)
  simp (disch := first | assumption | omega | (simp only [szR, tgC_len, tgC_all, entC_len, entC_all, plC_len, plC_all, tbC_len, tbC_all] <;> omega) | rfl | decide) only [gen0, gen1, gen2, rulesM, rulesT, litR, bolR, Nat.reduceAdd, Nat.reduceLeDiff, numR, memR, valR, heapR, updR, intR, decR, extR, slR, segR, thenR, pnR, Int.reduceToNat, Int.reduceAdd, Int.reduceSub, Int.reduceLT, Int.reduceLE, Nat.reduceSub, Nat.reduceMul, Nat.reduceEqDiff, joinBR]
  refine pfree_tab t20 hT7 hO7 fun w21 hx21 => ?_
  rw [hl7]
  simp (disch := first | assumption | omega | (simp only [szR, tgC_len, tgC_all, entC_len, entC_all, plC_len, plC_all, tbC_len, tbC_all] <;> omega) | rfl | decide) only [gen0, gen1, gen2, rulesM, rulesT, litR, bolR, Nat.reduceAdd, Nat.reduceLeDiff, numR, memR, valR, heapR, updR, intR, decR, extR, slR, segR, thenR, pnR, Int.reduceToNat, Int.reduceAdd, Int.reduceSub, Int.reduceLT, Int.reduceLE, Nat.reduceSub, Nat.reduceMul, Nat.reduceEqDiff, joinBR, e5, flip_bit hA]
  have t21 := t20.step hx21
  obtain ⟨hV, hVp⟩ := flip_page hA
  have hlk7 : lookW m7 0 ((va % 274877906944) ^^^ 4095) = wd f x := by
    have := hlook7 _ (Nat.lt_trans hV (by omega))
    rw [if_pos hVp] at this
    exact this
  refine Get_at t21 hT7 (by omega) hr7 hV h1 h2 hlk7 fun w22 hx22 => ?_
  have hy22 := hx21.trans hx22 (by simp)
  have t22 := t21.step hx22
  have hA22 := hy22.at hA20 (by simp)
  have hB22 := hy22.at hB20 (by simp)
  have hX22 := hy22.at hX20 (by simp)
  have hY22 := hy22.at hY20 (by simp)
  have lA := lt_of_at hA22
  have lB := lt_of_at hB22
  have lX := lt_of_at hX22
  have lY := lt_of_at hY22
  simp (disch := first | assumption | omega | (simp only [szR, tgC_len, tgC_all, entC_len, entC_all, plC_len, plC_all, tbC_len, tbC_all] <;> omega) | rfl | decide) only [gen0, gen1, gen2, rulesM, rulesT, litR, bolR, Nat.reduceAdd, Nat.reduceLeDiff, numR, memR, valR, heapR, updR, intR, decR, extR, slR, segR, thenR, pnR, Int.reduceToNat, Int.reduceAdd, Int.reduceSub, Int.reduceLT, Int.reduceLE, Nat.reduceSub, Nat.reduceMul, Nat.reduceEqDiff, joinBR, ent_drop0, hA22, hB22, hX22, hY22, entC_sub, eqlE, eqE_me]
  refine one_spec fun w23 hx23 => ?_
  simp (disch := first | assumption | omega | (simp only [szR, tgC_len, tgC_all, entC_len, entC_all, plC_len, plC_all, tbC_len, tbC_all] <;> omega) | rfl | decide) only [gen0, gen1, gen2, rulesM, rulesT, litR, bolR, Nat.reduceAdd, Nat.reduceLeDiff, numR, memR, valR, heapR, updR, intR, decR, extR, slR, segR, thenR, pnR, Int.reduceToNat, Int.reduceAdd, Int.reduceSub, Int.reduceLT, Int.reduceLE, Nat.reduceSub, Nat.reduceMul, Nat.reduceEqDiff, joinBR]
  have hx24 : Ext [] w22 (w22.alloc (.cells (entC f x).toArray 40)) := Ext.alloc Ext.refl _ _
  exact hK _ (((hw.trans t22.ext (by simp)).trans hx24 (by simp)).trans hx23 (by simp))
end Go.Proofs.Ytfpcflmgipklcaa
