/- Tables: an entry laid, or not; conditions: those of each theorem. -/
import Derived.Test.YtfpcflmgipklcaaTab5
namespace Go.Proofs.Ytfpcflmgipklcaa
open Go.Fx
set_option maxRecDepth 100000
set_option linter.unusedSimpArgs false
set_option linter.unusedVariables false
set_option maxHeartbeats 1000000
theorem Set_tabO {w0 w : World} {tb r q p n : Nat} {m g : Nat → Int} {t : Nat} {fs oth : List Nat} {lv : Nat → Nat} {par : Nat → Nat × Nat} (h : Tab w0 w tb r q p n m g t fs) (hT : Tree m n fs lv par) (hO : OwnT t (fs ++ oth)) (hD : (fs ++ oth).Nodup) (hoth : ∀ f ∈ oth, f < n) {va : Nat} (hva : va < 274877906944) {f : Nat → Bool} {x : Nat} (hx : x < 18446744073709551616) {K : Value → World → Prop}
    (hbad : (leaf f && right f x) = false → ∀ w', Ext [] w w' → K (.int .i64 2) w')
    (hroom : (leaf f && right f x) = true → n < fs.length + oth.length + lev m (fs.headD 0) va → ∀ w', Ext [] w w' → K (.int .i64 15) w')
    (hK : (leaf f && right f x) = true → fs.length + oth.length + lev m (fs.headD 0) va ≤ n → ∀ m' g' t' fs' lv' par' w', Tab w0 w' tb r q p n m' g' t' fs' → Tree m' n fs' lv' par' → OwnT t' (fs' ++ oth) → (fs' ++ oth).Nodup → fs'.length = fs.length + lev m (fs.headD 0) va → fs'.headD 0 = fs.headD 0 →
      (∀ va', va' < 549755813888 → lookW m' (fs.headD 0) va' = if va' / 4096 = va / 4096 then wd f x else lookW m (fs.headD 0) va') → (∀ va', va' < 549755813888 → lev m' (fs.headD 0) va' = levS (lev m (fs.headD 0)) va 0 va') → KeptO w w' → KeptI tb w w' → K (.int .i64 0) w') :
    callsK Try.prog 9 #[.pointer (some ⟨tb, 0, none⟩), .int .u64 (va : Nat), .agg (entC f x).toArray] w K := by
  have hcn := cnt_fs hO hD (fun a ha => by
    have := h.num
    rcases List.mem_append.1 ha with ha | ha
    · have := hT.lt a ha
      omega
    · have := hoth a ha
      omega)
  rw [List.length_append] at hcn
  obtain ⟨f0, l0, htop, hlv0⟩ := hT.top
  have hmem0 : fs.headD 0 ∈ fs ∧ lv (fs.headD 0) = 2 := by
    rw [htop]
    exact ⟨by simp, hlv0⟩
  have hlvs : ∀ va', va' < 549755813888 → lev m (fs.headD 0) va' = levS (lev m (fs.headD 0)) va (lev m (fs.headD 0) va) va' := fun va' hva' => levS_me hT hmem0.1 hmem0.2 (by omega) hva'
  have hn := h.num
  have hI0 : LayI w0 w w tb r q p n (fs.headD 0) va oth m fs m fs lv par t g := ⟨h, hT, hO, hD, hoth, rfl, rfl, fun _ => rfl, hlvs, KeptO.refl w, KeptI.refl tb w⟩
  obtain ⟨hr, hlvr, hfs1, hfs2⟩ := hI0.fs
  have hfs : 0 < fs.length ∧ fs.length ≤ 64 := ⟨hfs1, by omega⟩
  obtain ⟨y, hy⟩ : ∃ y, low m va 2 (fs.headD 0) = y := ⟨_, rfl⟩
  obtain ⟨F, l, ok⟩ := y
  have hlev : lev m (fs.headD 0) va = l := lev_of hy
  have hat := low_at hT (va := va) hr hlvr
  rw [hy] at hat
  obtain ⟨a1, a2, a3, a4, a5⟩ := hat
  simp only at a1 a2 a3 a4 a5
  rw [hlev] at hroom
  have hmay : decide (va < 274877906944) = true := decide_eq_true hva
  have hxb : Ext [] w (w.alloc (.cells (entC f x).toArray 40)) := Ext.alloc Ext.refl _ _
  have hb5 : (w.alloc (.cells (entC f x).toArray 40)).heap[w.heap.size]? = some (.cells (entC f x).toArray 40 (0, 0)) := alloc_at rfl
  apply F9_ok
  unfold F9
  simp (disch := first | assumption | omega | (simp only [szR, tgC_len, tgC_all, entC_len, entC_all, plC_len, plC_all, tbC_len, tbC_all] <;> omega) | rfl | decide) only [gen0, gen1, gen2, rulesM, rulesT, litR, bolR, Nat.reduceAdd, Nat.reduceLeDiff, numR, memR, valR, heapR, updR, intR, decR, extR, slR, segR, thenR, pnR, Int.reduceToNat, Int.reduceAdd, Int.reduceSub, Int.reduceLT, Int.reduceLE, Nat.reduceSub, Nat.reduceMul, Nat.reduceEqDiff]
  refine tnone_spec (h.step hxb) hfs ?_
  simp (disch := first | assumption | omega | (simp only [szR, tgC_len, tgC_all, entC_len, entC_all, plC_len, plC_all, tbC_len, tbC_all] <;> omega) | rfl | decide) only [gen0, gen1, gen2, rulesM, rulesT, litR, bolR, Nat.reduceAdd, Nat.reduceLeDiff, numR, memR, valR, heapR, updR, intR, decR, extR, slR, segR, thenR, pnR, Int.reduceToNat, Int.reduceAdd, Int.reduceSub, Int.reduceLT, Int.reduceLE, Nat.reduceSub, Nat.reduceMul, Nat.reduceEqDiff]
  refine May_spec ?_
  rw [hmay]
  simp (disch := first | assumption | omega | (simp only [szR, tgC_len, tgC_all, entC_len, entC_all, plC_len, plC_all, tbC_len, tbC_all] <;> omega) | rfl | decide) only [gen0, gen1, gen2, rulesM, rulesT, litR, bolR, Nat.reduceAdd, Nat.reduceLeDiff, numR, memR, valR, heapR, updR, intR, decR, extR, slR, segR, thenR, pnR, Int.reduceToNat, Int.reduceAdd, Int.reduceSub, Int.reduceLT, Int.reduceLE, Nat.reduceSub, Nat.reduceMul, Nat.reduceEqDiff, joinBR, hb5, entC_sub]
  refine Leaf_spec fun w1 hx1 => ?_
  have hs1 := hx1.size
  simp only [szR] at hs1
  have hk1 := kept0 hx1
  have hw1 : Ext [] w w1 := hxb.trans hx1 (by simp)
  have hb1 := hx1.at hb5 (by simp)
  generalize hlf : leaf f = lf at *
  cases lf
  · simp (disch := first | assumption | omega | (simp only [szR, tgC_len, tgC_all, entC_len, entC_all, plC_len, plC_all, tbC_len, tbC_all] <;> omega) | rfl | decide) only [gen0, gen1, gen2, rulesM, rulesT, litR, bolR, Nat.reduceAdd, Nat.reduceLeDiff, numR, memR, valR, heapR, updR, intR, decR, extR, slR, segR, thenR, pnR, Int.reduceToNat, Int.reduceAdd, Int.reduceSub, Int.reduceLT, Int.reduceLE, Nat.reduceSub, Nat.reduceMul, Nat.reduceEqDiff, joinBR, Bool.not_false]
    exact hbad rfl _ hw1
  simp (disch := first | assumption | omega | (simp only [szR, tgC_len, tgC_all, entC_len, entC_all, plC_len, plC_all, tbC_len, tbC_all] <;> omega) | rfl | decide) only [gen0, gen1, gen2, rulesM, rulesT, litR, bolR, Nat.reduceAdd, Nat.reduceLeDiff, numR, memR, valR, heapR, updR, intR, decR, extR, slR, segR, thenR, pnR, Int.reduceToNat, Int.reduceAdd, Int.reduceSub, Int.reduceLT, Int.reduceLE, Nat.reduceSub, Nat.reduceMul, Nat.reduceEqDiff, joinBR, hb1, entC_sub, Bool.not_true]
  refine Right_spec hx fun w2 hx2 => ?_
  have hw2 := hw1.trans hx2 (by simp)
  have hb2 := hx2.at hb1 (by simp)
  generalize hrt : right f x = rt at *
  cases rt
  · simp (disch := first | assumption | omega | (simp only [szR, tgC_len, tgC_all, entC_len, entC_all, plC_len, plC_all, tbC_len, tbC_all] <;> omega) | rfl | decide) only [gen0, gen1, gen2, rulesM, rulesT, litR, bolR, Nat.reduceAdd, Nat.reduceLeDiff, numR, memR, valR, heapR, updR, intR, decR, extR, slR, segR, thenR, pnR, Int.reduceToNat, Int.reduceAdd, Int.reduceSub, Int.reduceLT, Int.reduceLE, Nat.reduceSub, Nat.reduceMul, Nat.reduceEqDiff, joinBR, Bool.not_false]
    exact hbad rfl _ hw2
  simp (disch := first | assumption | omega | (simp only [szR, tgC_len, tgC_all, entC_len, entC_all, plC_len, plC_all, tbC_len, tbC_all] <;> omega) | rfl | decide) only [gen0, gen1, gen2, rulesM, rulesT, litR, bolR, Nat.reduceAdd, Nat.reduceLeDiff, numR, memR, valR, heapR, updR, intR, decR, extR, slR, segR, thenR, pnR, Int.reduceToNat, Int.reduceAdd, Int.reduceSub, Int.reduceLT, Int.reduceLE, Nat.reduceSub, Nat.reduceMul, Nat.reduceEqDiff, joinBR, Bool.not_true]
  refine lowest_spec (h.step hw2) hT (by omega) fun w3 hx3 => ?_
  have hw3 := hw2.trans hx3 (by simp)
  have hb3 := hx3.at hb2 (by simp)
  have h3 := h.step hw3
  obtain ⟨a, c, hbx, ho⟩ := h3.box
  have hfl : fs.length + oth.length ≤ n := by
    rw [← List.length_append]
    exact nodup_le hD fun f hf => (List.mem_append.1 hf).elim (hT.lt f) (hoth f)
  have hI3 : ∀ w4, Ext [] w w4 → LayI w0 w w4 tb r q p n (fs.headD 0) va oth m fs m fs lv par t g := fun w4 hx4 => ⟨h.step hx4, hT, hO, hD, hoth, rfl, rfl, fun _ => rfl, hlvs, KeptO.of hx4 (by simp), h.ofI hx4 (by simp)⟩
  cases ok
  · simp (disch := first | assumption | omega | (simp only [szR, tgC_len, tgC_all, entC_len, entC_all, plC_len, plC_all, tbC_len, tbC_all] <;> omega) | rfl | decide) only [gen0, gen1, gen2, rulesM, rulesT, litR, bolR, Nat.reduceAdd, Nat.reduceLeDiff, numR, memR, valR, heapR, updR, intR, decR, extR, slR, segR, thenR, pnR, Int.reduceToNat, Int.reduceAdd, Int.reduceSub, Int.reduceLT, Int.reduceLE, Nat.reduceSub, Nat.reduceMul, Nat.reduceEqDiff, joinBR, hy, hbx, tbC_1, Bool.not_false]
    refine Free_spec h3.pool hn h3.bits fun w4 hx4 => ?_
    rw [hcn]
    by_cases hrm : n < fs.length + oth.length + l
    · have hd : decide (((n : Nat) : Int) - ((fs.length + oth.length : Nat) : Int) < (l : Int)) = true := decide_eq_true (by omega)
      simp (disch := first | assumption | omega | (simp only [szR, tgC_len, tgC_all, entC_len, entC_all, plC_len, plC_all, tbC_len, tbC_all] <;> omega) | rfl | decide) only [gen0, gen1, gen2, rulesM, rulesT, litR, bolR, Nat.reduceAdd, Nat.reduceLeDiff, numR, memR, valR, heapR, updR, intR, decR, extR, slR, segR, thenR, pnR, Int.reduceToNat, Int.reduceAdd, Int.reduceSub, Int.reduceLT, Int.reduceLE, Nat.reduceSub, Nat.reduceMul, Nat.reduceEqDiff, joinBR, hd]
      exact hroom rfl hrm _ (hw3.trans hx4 (by simp))
    have hd : decide (((n : Nat) : Int) - ((fs.length + oth.length : Nat) : Int) < (l : Int)) = false := decide_eq_false (by omega)
    simp (disch := first | assumption | omega | (simp only [szR, tgC_len, tgC_all, entC_len, entC_all, plC_len, plC_all, tbC_len, tbC_all] <;> omega) | rfl | decide) only [gen0, gen1, gen2, rulesM, rulesT, litR, bolR, Nat.reduceAdd, Nat.reduceLeDiff, numR, memR, valR, heapR, updR, intR, decR, extR, slR, segR, thenR, pnR, Int.reduceToNat, Int.reduceAdd, Int.reduceSub, Int.reduceLT, Int.reduceLE, Nat.reduceSub, Nat.reduceMul, Nat.reduceEqDiff, joinBR, hd]
    have hw4 := hw3.trans hx4 (by simp)
    have hb4 := hx4.at hb3 (by simp)
    exact lay_loop (hI3 _ hw4) hy hva hx hb4 (by rw [hlev]; omega) (hK rfl (by rw [hlev]; omega)) rfl rfl rfl
  · have hl0 : l = 0 := of_decide_eq_true a4.symm
    simp (disch := first | assumption | omega | (simp only [szR, tgC_len, tgC_all, entC_len, entC_all, plC_len, plC_all, tbC_len, tbC_all] <;> omega) | rfl | decide) only [gen0, gen1, gen2, rulesM, rulesT, litR, bolR, Nat.reduceAdd, Nat.reduceLeDiff, numR, memR, valR, heapR, updR, intR, decR, extR, slR, segR, thenR, pnR, Int.reduceToNat, Int.reduceAdd, Int.reduceSub, Int.reduceLT, Int.reduceLE, Nat.reduceSub, Nat.reduceMul, Nat.reduceEqDiff, joinBR, hy, Bool.not_true]
    exact lay_loop (hI3 _ hw3) hy hva hx hb3 (by rw [hlev]; omega) (hK rfl (by rw [hlev]; omega)) rfl rfl rfl
theorem Set_tab {w0 w : World} {tb r q p n : Nat} {m g : Nat → Int} {t : Nat} {fs : List Nat} {lv : Nat → Nat} {par : Nat → Nat × Nat} (h : Tab w0 w tb r q p n m g t fs) (hT : Tree m n fs lv par) (hO : OwnT t fs) {va : Nat} (hva : va < 274877906944) {f : Nat → Bool} {x : Nat} (hx : x < 18446744073709551616) {K : Value → World → Prop}
    (hbad : (leaf f && right f x) = false → ∀ w', Ext [] w w' → K (.int .i64 2) w')
    (hroom : (leaf f && right f x) = true → n < fs.length + lev m (fs.headD 0) va → ∀ w', Ext [] w w' → K (.int .i64 15) w')
    (hK : (leaf f && right f x) = true → fs.length + lev m (fs.headD 0) va ≤ n → ∀ m' g' t' fs' lv' par' w', Tab w0 w' tb r q p n m' g' t' fs' → Tree m' n fs' lv' par' → OwnT t' fs' → fs'.length = fs.length + lev m (fs.headD 0) va → fs'.headD 0 = fs.headD 0 →
      (∀ va', va' < 549755813888 → lookW m' (fs.headD 0) va' = if va' / 4096 = va / 4096 then wd f x else lookW m (fs.headD 0) va') → KeptO w w' → K (.int .i64 0) w') :
    callsK Try.prog 9 #[.pointer (some ⟨tb, 0, none⟩), .int .u64 (va : Nat), .agg (entC f x).toArray] w K :=
  Set_tabO (oth := []) h hT (by rw [List.append_nil]; exact hO) (by rw [List.append_nil]; exact hT.one) (by simp) hva hx hbad hroom fun h1 h2 m' g' t' fs' lv' par' w' h3 h4 h5 _ h7 h8 h9 _ h11 _ => hK h1 h2 m' g' t' fs' lv' par' w' h3 h4 (by rwa [List.append_nil] at h5) h7 h8 h9 h11
end Go.Proofs.Ytfpcflmgipklcaa
