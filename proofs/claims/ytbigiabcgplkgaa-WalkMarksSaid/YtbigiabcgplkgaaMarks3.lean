/- What is done by an entry marks it where it is, and nothing else: the walk; conditions: those of each theorem. -/
import Derived.Test.YtbigiabcgplkgaaMark
import Derived.Test.YtbigiabcgplkgaaGM
namespace Go.Proofs.Ytbigiabcgplkgaa
open Go.Fx
set_option maxRecDepth 100000
set_option linter.unusedSimpArgs false
set_option linter.unusedVariables false
theorem fdC_congr {f g : Nat → Bool} {n a : Nat} (h : ∀ j, j < 12 → f j = g j) : fdC f n a = fdC g n a := by simp [fdC, h]
theorem neqN (a b : Int) (x y : Operand) (t : TypeId) (w : World) : (binV .neq t x y (.int .i64 a) (.int .i64 a)).run Try.prog w = .ok (.bool false) w := by
  have := (numR (P := Try.prog)).2.2.2.2.2.2.2.2.2.2.2.2.1 w t x y .i64 a a
  simpa using this
theorem marks_reg {w : World} {J0 : List Value → World → Prop} {F : Nat → Bool} {n a : Nat} {k : Int} {t : Bool} {b11 b14 b15 : Nat} (c11 : w.heap[b11]? = some (.cells (fdC F n a).toArray 34 (0, 0)))
    (c14 : w.heap[b14]? = some (.cells (fdC (markA F k t) n a).toArray 34 (0, 0))) (c15 : w.heap[b15]? = some (.cells (fdC (markA F k t) n a).toArray 34 (0, 0))) (hJ : ∀ w', Ext [] w w' → J0 [.bool false] w') :
    ∀ v59 v14 v15 v11 v23 v27 : Value, v59 = .int .i64 0 → v14 = .pointer (some ⟨b14, 0, none⟩) → v15 = .pointer (some ⟨b15, 0, none⟩) → v11 = .pointer (some ⟨b11, 0, none⟩) → v23 = .int .i64 k → v27 = .bool t → (drewK (fun w =>
  parR (fun I =>
  pV Try.prog (binV .neq 3 (.tmp 60) (.const (.int .i64 0)) v59 (.int .i64 0)) fun v61 =>
  gdP (yb v61) false (fun k => iV Try.prog I (Instr.loadAt 34 v14) k) fun v63 =>
  gdP (yb v61) false (fun k => iV Try.prog I (Instr.loadAt 34 v15) k) fun v64 =>
  gdP (yb v61) false (fun k => pV Try.prog (binV .neq 34 (.tmp 63) (.tmp 64) v63 v64) k) fun v65 =>
  pN Try.prog (pickN v61 (.bool true) v65) fun v66 =>
  gdP (yb v66) false (fun k => pV Try.prog (Instr.fieldAt 34 v14 1) k) fun v68 =>
  gdP (yb v66) false (fun k => iV Try.prog I (Instr.loadAt 23 v68) k) fun v69 =>
  gdP (yb v66) false (fun k => pV Try.prog (Instr.fieldAt 34 v11 1) k) fun v70 =>
  gdP (yb v66) false (fun k => iV Try.prog I (Instr.loadAt 23 v70) k) fun v71 =>
  gdP (yb v66) false (fun k => pV Try.prog (binV .neq 23 (.tmp 69) (.tmp 71) v69 v71) k) fun v72 =>
  pN Try.prog (pickN v66 (.bool true) v72) fun v73 =>
  gdP (yb v73) false (fun k => pV Try.prog (Instr.fieldAt 34 v14 0) k) fun v75 =>
  gdP (yb v73) false (fun k => iV Try.prog I (Instr.loadAt 32 v75) k) fun v76 =>
  gdP (yb v73) false (fun k => pV Try.prog (Instr.fieldAt 34 v11 0) k) fun v77 =>
  gdP (yb v73) false (fun k => iV Try.prog I (Instr.loadAt 32 v77) k) fun v78 =>
  gdP (yb v73) false (fun k => k v23) fun v79 =>
  gdP (yb v73) false (fun k => k v27) fun v80 =>
  gdP (yb v73) false (fun k => iN Try.prog I (callN (.func (.func 23) #[] #[]) #[v78, v79, v80]) k) fun v81 =>
  gdP (yb v73) false (fun k => pV Try.prog (binV .neq 32 (.tmp 76) (.tmp 81) v76 v81) k) fun v82 =>
  pN Try.prog (pickN v73 (.bool true) v82) fun v83 =>
  gdP (yb v83) false (fun k => pV Try.prog (Instr.fieldAt 34 v14 0) k) fun v85 =>
  gdP (yb v83) false (fun k => iV Try.prog I (Instr.loadAt 32 v85) k) fun v86 =>
  gdP (yb v83) false (fun k => k v23) fun v87 =>
  gdP (yb v83) false (fun k => k v27) fun v88 =>
  gdP (yb v83) false (fun k => iN Try.prog I (callN (.func (.func 23) #[] #[]) #[v86, v87, v88]) k) fun v89 =>
  gdP (yb v83) false (fun k => pV Try.prog (Instr.fieldAt 34 v14 0) k) fun v90 =>
  gdP (yb v83) false (fun k => iV Try.prog I (Instr.loadAt 32 v90) k) fun v91 =>
  gdP (yb v83) false (fun k => pV Try.prog (binV .neq 32 (.tmp 89) (.tmp 91) v89 v91) k) fun v92 =>
  pN Try.prog (pickN v83 (.bool true) v92) fun v93 =>
  allI I fun w =>
  J0 [v93] w) w) w) := by
  rintro _ _ _ _ _ _ rfl rfl rfl rfl rfl rfl
  simp (disch := first | assumption | omega | (simp only [szR, entC_len, entC_all, fdC_len, fdC_all] <;> omega) | rfl | decide) only [gen0, gen1, gen2, rulesM, litR, bolR, Nat.reduceAdd, Nat.reduceLeDiff, numR, memR, valR, heapR, updR, intR, decR, extR, slR, segR, thenR, pnR, Int.reduceToNat, Int.reduceAdd, Int.reduceSub, Int.reduceLT, Int.reduceLE, Nat.reduceSub, Nat.reduceMul, Nat.reduceEqDiff]
  obtain ⟨I, hI⟩ : ∃ I : World → Prop, I = fun w' => Ext [] w w' := ⟨_, rfl⟩
  have hu : ∀ w', I w' → Ext [] w w' := by subst hI; exact fun _ h => h
  have keep : ∀ w' w2, I w' → Ext [] w' w2 → I w2 := by
    subst hI
    exact fun w' w2 hx h => hx.trans h (by simp)
  have LF : ∀ (b : Nat) (f : Nat → Bool), w.heap[b]? = some (.cells (fdC f n a).toArray 34 (0, 0)) → ∀ K : Value → Prop, K (.agg (fdC f n a).toArray) → iV Try.prog I (Instr.loadAt 34 (.pointer (some ⟨b, 0, none⟩))) K := fun b f hb K hK => iV.intro _ (fun w' h => by
    have c := (hu w' h).at hb (by simp)
    have hl : ∀ K' : Value → World → Prop, K' (.agg (fdC f n a).toArray) w' → kV Try.prog (Instr.loadAt 34 (.pointer (some ⟨b, 0, none⟩))) w' K' := fun K' hk => by
      simp (disch := first | assumption | omega | (simp only [szR, entC_len, entC_all, fdC_len, fdC_all] <;> omega) | rfl | decide) only [gen0, gen1, gen2, rulesM, litR, bolR, Nat.reduceAdd, Nat.reduceLeDiff, numR, memR, valR, heapR, updR, intR, decR, extR, slR, segR, thenR, pnR, Int.reduceToNat, Int.reduceAdd, Int.reduceSub, Int.reduceLT, Int.reduceLE, Nat.reduceSub, Nat.reduceMul, Nat.reduceEqDiff, c, fdC_sub]
      exact hk
    exact hl _ ⟨rfl, h⟩) hK
  have LE : ∀ (b : Nat) (f : Nat → Bool), w.heap[b]? = some (.cells (fdC f n a).toArray 34 (0, 0)) → ∀ K : Value → Prop, K (.agg (entC f n).toArray) → iV Try.prog I (Instr.loadAt 32 (.pointer (some ⟨b, 0, none⟩))) K := fun b f hb K hK => iV.intro _ (fun w' h => by
    have c := (hu w' h).at hb (by simp)
    have hl : ∀ K' : Value → World → Prop, K' (.agg (entC f n).toArray) w' → kV Try.prog (Instr.loadAt 32 (.pointer (some ⟨b, 0, none⟩))) w' K' := fun K' hk => by
      simp (disch := first | assumption | omega | (simp only [szR, entC_len, entC_all, fdC_len, fdC_all] <;> omega) | rfl | decide) only [gen0, gen1, gen2, rulesM, litR, bolR, Nat.reduceAdd, Nat.reduceLeDiff, numR, memR, valR, heapR, updR, intR, decR, extR, slR, segR, thenR, pnR, Int.reduceToNat, Int.reduceAdd, Int.reduceSub, Int.reduceLT, Int.reduceLE, Nat.reduceSub, Nat.reduceMul, Nat.reduceEqDiff, c, fdC_sub13]
      exact hk
    exact hl _ ⟨rfl, h⟩) hK
  have LA : ∀ (b : Nat) (f : Nat → Bool), w.heap[b]? = some (.cells (fdC f n a).toArray 34 (0, 0)) → ∀ K : Value → Prop, K (.int .u64 a) → iV Try.prog I (Instr.loadAt 23 (.pointer (some ⟨b, 13, none⟩))) K := fun b f hb K hK => iV.intro _ (fun w' h => by
    have c := (hu w' h).at hb (by simp)
    have hl : ∀ K' : Value → World → Prop, K' (.int .u64 a) w' → kV Try.prog (Instr.loadAt 23 (.pointer (some ⟨b, 13, none⟩))) w' K' := fun K' hk => by
      simp (disch := first | assumption | omega | (simp only [szR, entC_len, entC_all, fdC_len, fdC_all] <;> omega) | rfl | decide) only [gen0, gen1, gen2, rulesM, litR, bolR, Nat.reduceAdd, Nat.reduceLeDiff, numR, memR, valR, heapR, updR, intR, decR, extR, slR, segR, thenR, pnR, Int.reduceToNat, Int.reduceAdd, Int.reduceSub, Int.reduceLT, Int.reduceLE, Nat.reduceSub, Nat.reduceMul, Nat.reduceEqDiff, c, fdC_at]
      exact hk
    exact hl _ ⟨rfl, h⟩) hK
  have hd : decide ((a : Int) ≠ (a : Int)) = false := by simp
  refine parR.intro I (by subst hI; (repeat first | assumption | exact Ext.refl | apply Ext.alloc | apply Ext.drew | (refine Ext.updN ?_ ?_; (focus first | omega | (simp only [szR] <;> omega))) | (refine Ext.updI ?_ ?_; (focus (simp; done))))) ?_
  simp (disch := first | assumption | omega | (simp only [szR, entC_len, entC_all, fdC_len, fdC_all] <;> omega) | rfl | decide) only [gen0, gen1, gen2, rulesM, litR, bolR, Nat.reduceAdd, Nat.reduceLeDiff, numR, memR, valR, heapR, updR, intR, decR, extR, slR, segR, thenR, pnR, Int.reduceToNat, Int.reduceAdd, Int.reduceSub, Int.reduceLT, Int.reduceLE, Nat.reduceSub, Nat.reduceMul, Nat.reduceEqDiff, gdPR, pN_pickE]
  refine LF _ _ c14 _ ?_
  simp (disch := first | assumption | omega | (simp only [szR, entC_len, entC_all, fdC_len, fdC_all] <;> omega) | rfl | decide) only [gen0, gen1, gen2, rulesM, litR, bolR, Nat.reduceAdd, Nat.reduceLeDiff, numR, memR, valR, heapR, updR, intR, decR, extR, slR, segR, thenR, pnR, Int.reduceToNat, Int.reduceAdd, Int.reduceSub, Int.reduceLT, Int.reduceLE, Nat.reduceSub, Nat.reduceMul, Nat.reduceEqDiff, gdPR, pN_pickE]
  refine LF _ _ c15 _ ?_
  simp (disch := first | assumption | omega | (simp only [szR, entC_len, entC_all, fdC_len, fdC_all] <;> omega) | rfl | decide) only [gen0, gen1, gen2, rulesM, litR, bolR, Nat.reduceAdd, Nat.reduceLeDiff, numR, memR, valR, heapR, updR, intR, decR, extR, slR, segR, thenR, pnR, Int.reduceToNat, Int.reduceAdd, Int.reduceSub, Int.reduceLT, Int.reduceLE, Nat.reduceSub, Nat.reduceMul, Nat.reduceEqDiff, gdPR, pN_pickE, neqF_self]
  refine LA _ _ c14 _ ?_
  simp (disch := first | assumption | omega | (simp only [szR, entC_len, entC_all, fdC_len, fdC_all] <;> omega) | rfl | decide) only [gen0, gen1, gen2, rulesM, litR, bolR, Nat.reduceAdd, Nat.reduceLeDiff, numR, memR, valR, heapR, updR, intR, decR, extR, slR, segR, thenR, pnR, Int.reduceToNat, Int.reduceAdd, Int.reduceSub, Int.reduceLT, Int.reduceLE, Nat.reduceSub, Nat.reduceMul, Nat.reduceEqDiff, gdPR, pN_pickE]
  refine LA _ _ c11 _ ?_
  simp (disch := first | assumption | omega | (simp only [szR, entC_len, entC_all, fdC_len, fdC_all] <;> omega) | rfl | decide) only [gen0, gen1, gen2, rulesM, litR, bolR, Nat.reduceAdd, Nat.reduceLeDiff, numR, memR, valR, heapR, updR, intR, decR, extR, slR, segR, thenR, pnR, Int.reduceToNat, Int.reduceAdd, Int.reduceSub, Int.reduceLT, Int.reduceLE, Nat.reduceSub, Nat.reduceMul, Nat.reduceEqDiff, gdPR, pN_pickE, hd]
  refine LE _ _ c14 _ ?_
  simp (disch := first | assumption | omega | (simp only [szR, entC_len, entC_all, fdC_len, fdC_all] <;> omega) | rfl | decide) only [gen0, gen1, gen2, rulesM, litR, bolR, Nat.reduceAdd, Nat.reduceLeDiff, numR, memR, valR, heapR, updR, intR, decR, extR, slR, segR, thenR, pnR, Int.reduceToNat, Int.reduceAdd, Int.reduceSub, Int.reduceLT, Int.reduceLE, Nat.reduceSub, Nat.reduceMul, Nat.reduceEqDiff, gdPR, pN_pickE]
  refine LE _ _ c11 _ ?_
  simp (disch := first | assumption | omega | (simp only [szR, entC_len, entC_all, fdC_len, fdC_all] <;> omega) | rfl | decide) only [gen0, gen1, gen2, rulesM, litR, bolR, Nat.reduceAdd, Nat.reduceLeDiff, numR, memR, valR, heapR, updR, intR, decR, extR, slR, segR, thenR, pnR, Int.reduceToNat, Int.reduceAdd, Int.reduceSub, Int.reduceLT, Int.reduceLE, Nat.reduceSub, Nat.reduceMul, Nat.reduceEqDiff, gdPR, pN_pickE]
  refine iN.intro (.agg (entC (markA F k t) n).toArray) (fun w' h => ?_) ?_
  · simp (disch := first | assumption | omega | (simp only [szR, entC_len, entC_all, fdC_len, fdC_all] <;> omega) | rfl | decide) only [gen0, gen1, gen2, rulesM, litR, bolR, Nat.reduceAdd, Nat.reduceLeDiff, numR, memR, valR, heapR, updR, intR, decR, extR, slR, segR, thenR, pnR, Int.reduceToNat, Int.reduceAdd, Int.reduceSub, Int.reduceLT, Int.reduceLE, Nat.reduceSub, Nat.reduceMul, Nat.reduceEqDiff]
    exact Marked_spec fun w2 hx2 => ⟨rfl, keep _ _ h hx2⟩
  simp (disch := first | assumption | omega | (simp only [szR, entC_len, entC_all, fdC_len, fdC_all] <;> omega) | rfl | decide) only [gen0, gen1, gen2, rulesM, litR, bolR, Nat.reduceAdd, Nat.reduceLeDiff, numR, memR, valR, heapR, updR, intR, decR, extR, slR, segR, thenR, pnR, Int.reduceToNat, Int.reduceAdd, Int.reduceSub, Int.reduceLT, Int.reduceLE, Nat.reduceSub, Nat.reduceMul, Nat.reduceEqDiff, gdPR, pN_pickE, neqE, eqE_self]
  refine LE _ _ c14 _ ?_
  simp (disch := first | assumption | omega | (simp only [szR, entC_len, entC_all, fdC_len, fdC_all] <;> omega) | rfl | decide) only [gen0, gen1, gen2, rulesM, litR, bolR, Nat.reduceAdd, Nat.reduceLeDiff, numR, memR, valR, heapR, updR, intR, decR, extR, slR, segR, thenR, pnR, Int.reduceToNat, Int.reduceAdd, Int.reduceSub, Int.reduceLT, Int.reduceLE, Nat.reduceSub, Nat.reduceMul, Nat.reduceEqDiff, gdPR, pN_pickE]
  refine iN.intro (.agg (entC (markA F k t) n).toArray) (fun w' h => ?_) ?_
  · simp (disch := first | assumption | omega | (simp only [szR, entC_len, entC_all, fdC_len, fdC_all] <;> omega) | rfl | decide) only [gen0, gen1, gen2, rulesM, litR, bolR, Nat.reduceAdd, Nat.reduceLeDiff, numR, memR, valR, heapR, updR, intR, decR, extR, slR, segR, thenR, pnR, Int.reduceToNat, Int.reduceAdd, Int.reduceSub, Int.reduceLT, Int.reduceLE, Nat.reduceSub, Nat.reduceMul, Nat.reduceEqDiff]
    refine Marked_spec fun w2 hx2 => ⟨?_, keep _ _ h hx2⟩
    rw [entC_congr (mark_mark F k t)]
  simp (disch := first | assumption | omega | (simp only [szR, entC_len, entC_all, fdC_len, fdC_all] <;> omega) | rfl | decide) only [gen0, gen1, gen2, rulesM, litR, bolR, Nat.reduceAdd, Nat.reduceLeDiff, numR, memR, valR, heapR, updR, intR, decR, extR, slR, segR, thenR, pnR, Int.reduceToNat, Int.reduceAdd, Int.reduceSub, Int.reduceLT, Int.reduceLE, Nat.reduceSub, Nat.reduceMul, Nat.reduceEqDiff, gdPR, pN_pickE]
  refine LE _ _ c14 _ ?_
  simp (disch := first | assumption | omega | (simp only [szR, entC_len, entC_all, fdC_len, fdC_all] <;> omega) | rfl | decide) only [gen0, gen1, gen2, rulesM, litR, bolR, Nat.reduceAdd, Nat.reduceLeDiff, numR, memR, valR, heapR, updR, intR, decR, extR, slR, segR, thenR, pnR, Int.reduceToNat, Int.reduceAdd, Int.reduceSub, Int.reduceLT, Int.reduceLE, Nat.reduceSub, Nat.reduceMul, Nat.reduceEqDiff, gdPR, pN_pickE, neqE, eqE_self]
  exact allI_intro fun w' h => hJ _ (hu _ h)
set_option maxHeartbeats 8000000 in
theorem marks_spec {w : World} {v : Value} {R : List LayE} {va : Int} {how : Int × Int} (hv : RowsAt w v 15 (R.map layC)) (hR : ∀ p ∈ R, p.n < 18446744073709551616) (hva0 : (Lit.int .u64 va).wf = true) {K : Value → World → Prop} (hK : ∀ w', Ext [] w w' → K (.bool true) w') :
    callsK Try.prog 7 #[v, .int .u64 va, .agg (i2C how).toArray] w K := by
  have hv1 := u64_of hva0
  obtain ⟨va, rfl⟩ : ∃ a : Nat, va = a := ⟨va.toNat, by omega⟩
  clear hva0
  obtain ⟨kk, y⟩ := how
  have e1 : i2C (kk, y) = [.int .i64 kk, .int .i64 y] := rfl
  rw [e1]
  clear e1
  obtain ⟨t, ht⟩ : ∃ t, decide (bitI .and .i64 y 1 = 1) = t := ⟨_, rfl⟩
  obtain ⟨gg, hgg⟩ : ∃ gg, decide (bitI .and .i64 y 2 = 2) = gg := ⟨_, rfl⟩
  have hsf : ∀ f n a, splice [Value.bool false, .bool false, .bool false, .bool false, .bool false, .bool false, .bool false, .bool false, .bool false, .bool false, .bool false, .bool false, .int .u64 0, .int .u64 0] 0 (fdC f n a) = fdC f n a := fun f n a => splice_over (by rw [fdC_len]; rfl)
  have hse : ∀ f n, splice [Value.bool false, .bool false, .bool false, .bool false, .bool false, .bool false, .bool false, .bool false, .bool false, .bool false, .bool false, .bool false, .int .u64 0] 0 (entC f n) = entC f n := fun f n => splice_over (by rw [entC_len]; rfl)
  have hsr : ∀ L : List Value, L.length = 4 → splice [.int .i64 0, .slice none 0 0, .slice none 0 0, .slice none 0 0] 0 L = L := fun L h => splice_all (by rw [h]; rfl)
  apply G7_ok
  unfold G7
  simp (disch := first | assumption | omega | (simp only [szR, entC_len, entC_all, fdC_len, fdC_all] <;> omega) | rfl | decide) only [gen0, gen1, gen2, rulesM, litR, bolR, Nat.reduceAdd, Nat.reduceLeDiff, numR, memR, valR, heapR, updR, intR, decR, extR, slR, segR, thenR, pnR, Int.reduceToNat, Int.reduceAdd, Int.reduceSub, Int.reduceLT, Int.reduceLE, Nat.reduceSub, Nat.reduceMul, Nat.reduceEqDiff]
  have hx0 : Ext [] w (w.alloc (.cells [.int .i64 kk, .int .i64 y].toArray 42)) := by (repeat first | assumption | exact Ext.refl | apply Ext.alloc | apply Ext.drew | (refine Ext.updN ?_ ?_; (focus first | omega | (simp only [szR] <;> omega))) | (refine Ext.updI ?_ ?_; (focus (simp; done))))
  have hc5 : (w.alloc (.cells [.int .i64 kk, .int .i64 y].toArray 42)).heap[w.heap.size]? = some (.cells [.int .i64 kk, .int .i64 y].toArray 42 (0, 0)) := (by first | with_reducible rfl | assumption | (simp (disch := first | assumption | omega | (simp only [szR, entC_len, entC_all, fdC_len, fdC_all] <;> omega) | rfl | decide) only [gen0, gen1, gen2, rulesM, litR, bolR, Nat.reduceAdd, Nat.reduceLeDiff, numR, memR, valR, heapR, updR, intR, decR, extR, slR, segR, thenR, pnR, Int.reduceToNat, Int.reduceAdd, Int.reduceSub, Int.reduceLT, Int.reduceLE, Nat.reduceSub, Nat.reduceMul, Nat.reduceEqDiff] <;> rfl) | simp (disch := first | assumption | omega | (simp only [szR, entC_len, entC_all, fdC_len, fdC_all] <;> omega) | rfl | decide) only [gen0, gen1, gen2, rulesM, litR, bolR, Nat.reduceAdd, Nat.reduceLeDiff, numR, memR, valR, heapR, updR, intR, decR, extR, slR, segR, thenR, pnR, Int.reduceToNat, Int.reduceAdd, Int.reduceSub, Int.reduceLT, Int.reduceLE, Nat.reduceSub, Nat.reduceMul, Nat.reduceEqDiff])
  refine laid_spec (hv.ext hx0 (by simp)) hR fun w1 r q base c g L P xa xb hm hr hc hrb hqb hwr hwq hbw hx => ?_
  have hxw1 := hx0.trans hx (by simp)
  have hs1 := hx.size
  simp only [szR] at hs1 hwr hwq
  have hc5 := hx.at hc5 (by simp)
  generalize R.take 60 = R' at hm hr
  obtain ⟨hlenL, hallL, hsubL⟩ := hr.cells
  simp (disch := first | assumption | omega | (simp only [szR, entC_len, entC_all, fdC_len, fdC_all] <;> omega) | rfl | decide) only [gen0, gen1, gen2, rulesM, litR, bolR, Nat.reduceAdd, Nat.reduceLeDiff, numR, memR, valR, heapR, updR, intR, decR, extR, slR, segR, thenR, pnR, Int.reduceToNat, Int.reduceAdd, Int.reduceSub, Int.reduceLT, Int.reduceLE, Nat.reduceSub, Nat.reduceMul, Nat.reduceEqDiff, hlenL, hallL, hsr, hc5, ht]
  refine walk_spec (root := 0) (va := va) (hm.ext (S := []) (by (repeat first | assumption | exact Ext.refl | apply Ext.alloc | apply Ext.drew | (refine Ext.updN ?_ ?_; (focus first | omega | (simp only [szR] <;> omega))) | (refine Ext.updI ?_ ?_; (focus (simp; done))))) (by simp) (by simp)) (by omega) (by omega) (by omega) fun w2 hx2 => ?_
  rw [walkA_laid]
  have hx12 : Ext [] w1 w2 := Ext.trans (S := []) (by (repeat first | assumption | exact Ext.refl | apply Ext.alloc | apply Ext.drew | (refine Ext.updN ?_ ?_; (focus first | omega | (simp only [szR] <;> omega))) | (refine Ext.updI ?_ ?_; (focus (simp; done))))) hx2 (by simp)
  have hxw2 := hxw1.trans hx12 (by simp)
  have hm2 := hm.ext hx12 (by simp) (by simp)
  have hc5 := hx12.at hc5 (by simp)
  have hl5 := lt_of_at hc5
  have hs12 := hx12.size
  cases hwa : walkA (laidW R') 8 0 va with
  | none =>
    simp only [wkR]
    simp (disch := first | assumption | omega | (simp only [szR, entC_len, entC_all, fdC_len, fdC_all] <;> omega) | rfl | decide) only [gen0, gen1, gen2, rulesM, litR, bolR, Nat.reduceAdd, Nat.reduceLeDiff, numR, memR, valR, heapR, updR, intR, decR, extR, slR, segR, thenR, pnR, Int.reduceToNat, Int.reduceAdd, Int.reduceSub, Int.reduceLT, Int.reduceLE, Nat.reduceSub, Nat.reduceMul, Nat.reduceEqDiff, hsf]
    exact one_spec fun w3 hx3 => hK _ (Ext.trans (S := []) (by (repeat first | assumption | exact Ext.refl | apply Ext.alloc | apply Ext.drew | (refine Ext.updN ?_ ?_; (focus first | omega | (simp only [szR] <;> omega))) | (refine Ext.updI ?_ ?_; (focus (simp; done))))) hx3 (by simp))
  | some p =>
    obtain ⟨x, a⟩ := p
    obtain ⟨hMa, hbad, ha8, halt⟩ := walkA_at hwa
    obtain ⟨hlf, hrt, hfr⟩ := bad_leaf0 hbad
    have hfr44 := fr_lt x
    simp only [wkR]
    simp (disch := first | assumption | omega | (simp only [szR, entC_len, entC_all, fdC_len, fdC_all] <;> omega) | rfl | decide) only [gen0, gen1, gen2, rulesM, litR, bolR, Nat.reduceAdd, Nat.reduceLeDiff, numR, memR, valR, heapR, updR, intR, decR, extR, slR, segR, thenR, pnR, Int.reduceToNat, Int.reduceAdd, Int.reduceSub, Int.reduceLT, Int.reduceLE, Nat.reduceSub, Nat.reduceMul, Nat.reduceEqDiff, hsf, fdC_sub13, hc5, hgg]
    refine check_spec fun w3 hx3 => ?_
    have hx23 : Ext [] w2 w3 := Ext.trans (S := []) (by (repeat first | assumption | exact Ext.refl | apply Ext.alloc | apply Ext.drew | (refine Ext.updN ?_ ?_; (focus first | omega | (simp only [szR] <;> omega))) | (refine Ext.updI ?_ ?_; (focus (simp; done))))) hx3 (by simp)
    have hxw3 := hxw2.trans hx23 (by simp)
    have hk3 := kept0 hx3
    have hs3 := hx3.size
    simp only [szR] at hs3
    have hc11 : w3.heap[w2.heap.size]? = some (.cells (fdC (fl x) (fr x) a).toArray 34 (0, 0)) := (by first | with_reducible rfl | assumption | (simp (disch := first | assumption | omega | (simp only [szR, entC_len, entC_all, fdC_len, fdC_all] <;> omega) | rfl | decide) only [gen0, gen1, gen2, rulesM, litR, bolR, Nat.reduceAdd, Nat.reduceLeDiff, numR, memR, valR, heapR, updR, intR, decR, extR, slR, segR, thenR, pnR, Int.reduceToNat, Int.reduceAdd, Int.reduceSub, Int.reduceLT, Int.reduceLE, Nat.reduceSub, Nat.reduceMul, Nat.reduceEqDiff, hk3, hsf] <;> rfl) | simp (disch := first | assumption | omega | (simp only [szR, entC_len, entC_all, fdC_len, fdC_all] <;> omega) | rfl | decide) only [gen0, gen1, gen2, rulesM, litR, bolR, Nat.reduceAdd, Nat.reduceLeDiff, numR, memR, valR, heapR, updR, intR, decR, extR, slR, segR, thenR, pnR, Int.reduceToNat, Int.reduceAdd, Int.reduceSub, Int.reduceLT, Int.reduceLE, Nat.reduceSub, Nat.reduceMul, Nat.reduceEqDiff, hk3, hsf])
    have hc5 := hx23.at hc5 (by simp)
    have hm3 := hm2.ext hx23 (by simp) (by simp)
    by_cases hck : ¬ checkA (fl x) kk t gg = 0
    · simp (disch := first | assumption | omega | (simp only [szR, entC_len, entC_all, fdC_len, fdC_all] <;> omega) | rfl | decide) only [gen0, gen1, gen2, rulesM, litR, bolR, Nat.reduceAdd, Nat.reduceLeDiff, numR, memR, valR, heapR, updR, intR, decR, extR, slR, segR, thenR, pnR, Int.reduceToNat, Int.reduceAdd, Int.reduceSub, Int.reduceLT, Int.reduceLE, Nat.reduceSub, Nat.reduceMul, Nat.reduceEqDiff]
      exact one_spec fun w4 hx4 => hK _ (Ext.trans (S := []) (by (repeat first | assumption | exact Ext.refl | apply Ext.alloc | apply Ext.drew | (refine Ext.updN ?_ ?_; (focus first | omega | (simp only [szR] <;> omega))) | (refine Ext.updI ?_ ?_; (focus (simp; done))))) hx4 (by simp))
    have hck : checkA (fl x) kk t gg = 0 := by omega
    rw [hck]
    simp (disch := first | assumption | omega | (simp only [szR, entC_len, entC_all, fdC_len, fdC_all] <;> omega) | rfl | decide) only [gen0, gen1, gen2, rulesM, litR, bolR, Nat.reduceAdd, Nat.reduceLeDiff, numR, memR, valR, heapR, updR, intR, decR, extR, slR, segR, thenR, pnR, Int.reduceToNat, Int.reduceAdd, Int.reduceSub, Int.reduceLT, Int.reduceLE, Nat.reduceSub, Nat.reduceMul, Nat.reduceEqDiff, hc11, fdC_sub]
    refine Mark_spec hm3 (by omega) ha8 (by omega) fun w4 m4 g4 hm4 hcase hx4 => ?_
    have hqw : w.heap.size ≤ q := by omega
    have hl4 := hm4.lt
    have hxw4 : Ext [] w w4 := hxw3.trans hx4 (by simp <;> omega)
    have hne11 : w2.heap.size ≠ q := by have := hm2.lt; omega
    have hne5 : w.heap.size ≠ q := by omega
    have hc11 := hx4.at hc11 (by simp <;> omega)
    have hc5 := hx4.at hc5 (by simp <;> omega)
    have hW2 : ∃ v', walkA (fun b => leN m4 b 8) 8 0 va = some (v', a) ∧ fdC (fl v') (fr v') a = fdC (markA (fl x) kk t) (fr x) a := by
      rcases hcase with ⟨rfl, he⟩ | rfl
      · refine ⟨x, by rw [walkA_laid]; exact hwa, ?_⟩
        exact (fdC_congr (eqE_iff.1 he).1).symm
      · have hwl := wd_lt (markA (fl x) kk t) (fr x)
        refine ⟨wd (markA (fl x) kk t) (fr x), ?_, ?_⟩
        · rw [walkA_congr (M' := setW (laidW R') a (wd (markA (fl x) kk t) (fr x))) (fun b hb => by
            rw [leN_set ha8 hb (by omega)]
            unfold setW
            split
            · rfl
            · exact laidW_eq _ hb) 8 0 va]
          exact walkA_set (bad_mark kk t hbad) hwa
        · rw [fr_wd, Nat.mod_eq_of_lt hfr44]
          exact fdC_congr fun j hj => fl_wd _ _ _ hj
    obtain ⟨v', hW2, hfd⟩ := hW2
    simp (disch := first | assumption | omega | (simp only [szR, entC_len, entC_all, fdC_len, fdC_all] <;> omega) | rfl | decide) only [gen0, gen1, gen2, rulesM, litR, bolR, Nat.reduceAdd, Nat.reduceLeDiff, numR, memR, valR, heapR, updR, intR, decR, extR, slR, segR, thenR, pnR, Int.reduceToNat, Int.reduceAdd, Int.reduceSub, Int.reduceLT, Int.reduceLE, Nat.reduceSub, Nat.reduceMul, Nat.reduceEqDiff, hsf]
    refine walk_spec (root := 0) (va := va) (hm4.ext (S := []) (by (repeat first | assumption | exact Ext.refl | apply Ext.alloc | apply Ext.drew | (refine Ext.updN ?_ ?_; (focus first | omega | (simp only [szR] <;> omega))) | (refine Ext.updI ?_ ?_; (focus (simp; done))))) (by simp) (by simp)) (by omega) (by omega) (by omega) fun w5 hx5 => ?_
    rw [hW2]
    simp only [wkR]
    rw [hfd]
    have hx45 : Ext [] w4 w5 := Ext.trans (S := []) (by (repeat first | assumption | exact Ext.refl | apply Ext.alloc | apply Ext.drew | (refine Ext.updN ?_ ?_; (focus first | omega | (simp only [szR] <;> omega))) | (refine Ext.updI ?_ ?_; (focus (simp; done))))) hx5 (by simp)
    have hk5 := kept0 hx5
    have hs5 := hx5.size
    simp only [szR] at hs5
    have hc14 : w5.heap[w4.heap.size]? = some (.cells (fdC (markA (fl x) kk t) (fr x) a).toArray 34 (0, 0)) := (by first | with_reducible rfl | assumption | (simp (disch := first | assumption | omega | (simp only [szR, entC_len, entC_all, fdC_len, fdC_all] <;> omega) | rfl | decide) only [gen0, gen1, gen2, rulesM, litR, bolR, Nat.reduceAdd, Nat.reduceLeDiff, numR, memR, valR, heapR, updR, intR, decR, extR, slR, segR, thenR, pnR, Int.reduceToNat, Int.reduceAdd, Int.reduceSub, Int.reduceLT, Int.reduceLE, Nat.reduceSub, Nat.reduceMul, Nat.reduceEqDiff, hk5, hsf] <;> rfl) | simp (disch := first | assumption | omega | (simp only [szR, entC_len, entC_all, fdC_len, fdC_all] <;> omega) | rfl | decide) only [gen0, gen1, gen2, rulesM, litR, bolR, Nat.reduceAdd, Nat.reduceLeDiff, numR, memR, valR, heapR, updR, intR, decR, extR, slR, segR, thenR, pnR, Int.reduceToNat, Int.reduceAdd, Int.reduceSub, Int.reduceLT, Int.reduceLE, Nat.reduceSub, Nat.reduceMul, Nat.reduceEqDiff, hk5, hsf])
    have hc11 := hx45.at hc11 (by simp)
    have hc5 := hx45.at hc5 (by simp)
    have hxw5 := hxw4.trans hx45 (by simp)
    simp (disch := first | assumption | omega | (simp only [szR, entC_len, entC_all, fdC_len, fdC_all] <;> omega) | rfl | decide) only [gen0, gen1, gen2, rulesM, litR, bolR, Nat.reduceAdd, Nat.reduceLeDiff, numR, memR, valR, heapR, updR, intR, decR, extR, slR, segR, thenR, pnR, Int.reduceToNat, Int.reduceAdd, Int.reduceSub, Int.reduceLT, Int.reduceLE, Nat.reduceSub, Nat.reduceMul, Nat.reduceEqDiff, hsf]
    refine joinL.intro fun J0 hJ0 => ?_
    have hl11 := lt_of_at hc11
    have hl14 := lt_of_at hc14
    refine marks_reg (k := kk) (t := t) (F := fl x) (n := fr x) (a := a) (b11 := w2.heap.size) (b14 := w4.heap.size) (b15 := w5.heap.size) (by first | with_reducible rfl | assumption | (simp (disch := first | assumption | omega | (simp only [szR, entC_len, entC_all, fdC_len, fdC_all] <;> omega) | rfl | decide) only [gen0, gen1, gen2, rulesM, litR, bolR, Nat.reduceAdd, Nat.reduceLeDiff, numR, memR, valR, heapR, updR, intR, decR, extR, slR, segR, thenR, pnR, Int.reduceToNat, Int.reduceAdd, Int.reduceSub, Int.reduceLT, Int.reduceLE, Nat.reduceSub, Nat.reduceMul, Nat.reduceEqDiff, hc11] <;> rfl) | simp (disch := first | assumption | omega | (simp only [szR, entC_len, entC_all, fdC_len, fdC_all] <;> omega) | rfl | decide) only [gen0, gen1, gen2, rulesM, litR, bolR, Nat.reduceAdd, Nat.reduceLeDiff, numR, memR, valR, heapR, updR, intR, decR, extR, slR, segR, thenR, pnR, Int.reduceToNat, Int.reduceAdd, Int.reduceSub, Int.reduceLT, Int.reduceLE, Nat.reduceSub, Nat.reduceMul, Nat.reduceEqDiff, hc11]) (by first | with_reducible rfl | assumption | (simp (disch := first | assumption | omega | (simp only [szR, entC_len, entC_all, fdC_len, fdC_all] <;> omega) | rfl | decide) only [gen0, gen1, gen2, rulesM, litR, bolR, Nat.reduceAdd, Nat.reduceLeDiff, numR, memR, valR, heapR, updR, intR, decR, extR, slR, segR, thenR, pnR, Int.reduceToNat, Int.reduceAdd, Int.reduceSub, Int.reduceLT, Int.reduceLE, Nat.reduceSub, Nat.reduceMul, Nat.reduceEqDiff, hc14] <;> rfl) | simp (disch := first | assumption | omega | (simp only [szR, entC_len, entC_all, fdC_len, fdC_all] <;> omega) | rfl | decide) only [gen0, gen1, gen2, rulesM, litR, bolR, Nat.reduceAdd, Nat.reduceLeDiff, numR, memR, valR, heapR, updR, intR, decR, extR, slR, segR, thenR, pnR, Int.reduceToNat, Int.reduceAdd, Int.reduceSub, Int.reduceLT, Int.reduceLE, Nat.reduceSub, Nat.reduceMul, Nat.reduceEqDiff, hc14]) (by first | with_reducible rfl | assumption | (simp (disch := first | assumption | omega | (simp only [szR, entC_len, entC_all, fdC_len, fdC_all] <;> omega) | rfl | decide) only [gen0, gen1, gen2, rulesM, litR, bolR, Nat.reduceAdd, Nat.reduceLeDiff, numR, memR, valR, heapR, updR, intR, decR, extR, slR, segR, thenR, pnR, Int.reduceToNat, Int.reduceAdd, Int.reduceSub, Int.reduceLT, Int.reduceLE, Nat.reduceSub, Nat.reduceMul, Nat.reduceEqDiff] <;> rfl) | simp (disch := first | assumption | omega | (simp only [szR, entC_len, entC_all, fdC_len, fdC_all] <;> omega) | rfl | decide) only [gen0, gen1, gen2, rulesM, litR, bolR, Nat.reduceAdd, Nat.reduceLeDiff, numR, memR, valR, heapR, updR, intR, decR, extR, slR, segR, thenR, pnR, Int.reduceToNat, Int.reduceAdd, Int.reduceSub, Int.reduceLT, Int.reduceLE, Nat.reduceSub, Nat.reduceMul, Nat.reduceEqDiff]) (fun w6 hx6 => ?_) _ _ _ _ _ _ rfl rfl rfl rfl rfl rfl
    have hx56 : Ext [] w5 w6 := Ext.trans (S := []) (by (repeat first | assumption | exact Ext.refl | apply Ext.alloc | apply Ext.drew | (refine Ext.updN ?_ ?_; (focus first | omega | (simp only [szR] <;> omega))) | (refine Ext.updI ?_ ?_; (focus (simp; done))))) hx6 (by simp)
    have hc14 := hx56.at hc14 (by simp)
    have hc11 := hx56.at hc11 (by simp)
    have hc5 := hx56.at hc5 (by simp)
    have hxw6 := hxw5.trans hx56 (by simp)
    have hs6 := hx56.size
    apply hJ0
    intro _
    simp (disch := first | assumption | omega | (simp only [szR, entC_len, entC_all, fdC_len, fdC_all] <;> omega) | rfl | decide) only [gen0, gen1, gen2, rulesM, litR, bolR, Nat.reduceAdd, Nat.reduceLeDiff, numR, memR, valR, heapR, updR, intR, decR, extR, slR, segR, thenR, pnR, Int.reduceToNat, Int.reduceAdd, Int.reduceSub, Int.reduceLT, Int.reduceLE, Nat.reduceSub, Nat.reduceMul, Nat.reduceEqDiff, hc14, fdC_sub13, hse]
    refine joinL.intro fun J2 hJ2 => ?_
    have hset : ∀ (f : Nat → Bool) (n k : Nat) (v : Bool), k < 12 → (entC f n).set k (.bool v) = entC (upd1 f k v) n := fun f n k v h => entC_set h
    have f6 : (fdC (fl x) (fr x) a)[6]? = some (.bool (fl x 6)) := rfl
    have f7 : (fdC (fl x) (fr x) a)[7]? = some (.bool (fl x 7)) := rfl
    have f10 : (fdC (fl x) (fr x) a)[10]? = some (.bool (fl x 10)) := rfl
    have hrest : ∀ w7, w7.heap[w6.heap.size]? = some (.cells (entC (upd1 (upd1 (upd1 (markA (fl x) kk t) 6 (fl x 6)) 7 (fl x 7)) 10 (fl x 10)) (fr x)).toArray 32 (0, 0)) → w7.heap[w2.heap.size]? = some (.cells (fdC (fl x) (fr x) a).toArray 34 (0, 0)) → w7.heap[w4.heap.size]? = some (.cells (fdC (markA (fl x) kk t) (fr x) a).toArray 34 (0, 0)) →
        w7.heap[w.heap.size]? = some (.cells [.int .i64 kk, .int .i64 y].toArray 42 (0, 0)) → Ext [] w w7 → J2 [] w7 := by
      intro w7 d16 d11 d14 d5 hx7
      rw [entC_congr (mark_back (fl x) kk t)] at d16
      apply hJ2
      intro _
      simp (disch := first | assumption | omega | (simp only [szR, entC_len, entC_all, fdC_len, fdC_all] <;> omega) | rfl | decide) only [gen0, gen1, gen2, rulesM, litR, bolR, Nat.reduceAdd, Nat.reduceLeDiff, numR, memR, valR, heapR, updR, intR, decR, extR, slR, segR, thenR, pnR, Int.reduceToNat, Int.reduceAdd, Int.reduceSub, Int.reduceLT, Int.reduceLE, Nat.reduceSub, Nat.reduceMul, Nat.reduceEqDiff, joinR, d16, d11, fdC_sub13, entC_sub, eqlE, eqE_self, d14, d5, hgg]
      refine check_spec fun w8 hx8 => ?_
      rw [mark_check, hck]
      have hx78 : Ext [] w7 w8 := Ext.trans (S := []) (by (repeat first | assumption | exact Ext.refl | apply Ext.alloc | apply Ext.drew | (refine Ext.updN ?_ ?_; (focus first | omega | (simp only [szR] <;> omega))) | (refine Ext.updI ?_ ?_; (focus (simp; done))))) hx8 (by simp)
      have d14 := hx78.at d14 (by simp)
      have hxw8 := hx7.trans hx78 (by simp)
      simp (disch := first | assumption | omega | (simp only [szR, entC_len, entC_all, fdC_len, fdC_all] <;> omega) | rfl | decide) only [gen0, gen1, gen2, rulesM, litR, bolR, Nat.reduceAdd, Nat.reduceLeDiff, numR, memR, valR, heapR, updR, intR, decR, extR, slR, segR, thenR, pnR, Int.reduceToNat, Int.reduceAdd, Int.reduceSub, Int.reduceLT, Int.reduceLE, Nat.reduceSub, Nat.reduceMul, Nat.reduceEqDiff, joinR, d14, fdC_sub13]
      refine Right_spec (by omega) fun w9 hx9 => ?_
      rw [mark_right kk t hlf, hrt]
      have hxw9 : Ext [] w w9 := Ext.trans (S := []) (by (repeat first | assumption | exact Ext.refl | apply Ext.alloc | apply Ext.drew | (refine Ext.updN ?_ ?_; (focus first | omega | (simp only [szR] <;> omega))) | (refine Ext.updI ?_ ?_; (focus (simp; done))))) hx9 (by simp)
      simp (disch := first | assumption | omega | (simp only [szR, entC_len, entC_all, fdC_len, fdC_all] <;> omega) | rfl | decide) only [gen0, gen1, gen2, rulesM, litR, bolR, Nat.reduceAdd, Nat.reduceLeDiff, numR, memR, valR, heapR, updR, intR, decR, extR, slR, segR, thenR, pnR, Int.reduceToNat, Int.reduceAdd, Int.reduceSub, Int.reduceLT, Int.reduceLE, Nat.reduceSub, Nat.reduceMul, Nat.reduceEqDiff, joinR]
      refine one_spec fun w10 hx10 => ?_
      simp (disch := first | assumption | omega | (simp only [szR, entC_len, entC_all, fdC_len, fdC_all] <;> omega) | rfl | decide) only [gen0, gen1, gen2, rulesM, litR, bolR, Nat.reduceAdd, Nat.reduceLeDiff, numR, memR, valR, heapR, updR, intR, decR, extR, slR, segR, thenR, pnR, Int.reduceToNat, Int.reduceAdd, Int.reduceSub, Int.reduceLT, Int.reduceLE, Nat.reduceSub, Nat.reduceMul, Nat.reduceEqDiff, joinR]
      exact hK _ (Ext.trans (S := []) (by (repeat first | assumption | exact Ext.refl | apply Ext.alloc | apply Ext.drew | (refine Ext.updN ?_ ?_; (focus first | omega | (simp only [szR] <;> omega))) | (refine Ext.updI ?_ ?_; (focus (simp; done))))) hx10 (by simp))
    clear hJ2 hJ0 hK
    have hl11 := lt_of_at hc11
    have hl14 := lt_of_at hc14
    have hl5 := lt_of_at hc5
    simp (disch := first | assumption | omega | (simp only [szR, entC_len, entC_all, fdC_len, fdC_all] <;> omega) | rfl | decide) only [gen0, gen1, gen2, rulesM, litR, bolR, Nat.reduceAdd, Nat.reduceLeDiff, numR, memR, valR, heapR, updR, intR, decR, extR, slR, segR, thenR, pnR, Int.reduceToNat, Int.reduceAdd, Int.reduceSub, Int.reduceLT, Int.reduceLE, Nat.reduceSub, Nat.reduceMul, Nat.reduceEqDiff, hc11, f6, f7, f10, hset, and_self]
    repeat' (with_reducible apply And.intro)
    all_goals exact hrest _ (by first | with_reducible rfl | assumption | (simp (disch := first | assumption | omega | (simp only [szR, entC_len, entC_all, fdC_len, fdC_all] <;> omega) | rfl | decide) only [gen0, gen1, gen2, rulesM, litR, bolR, Nat.reduceAdd, Nat.reduceLeDiff, numR, memR, valR, heapR, updR, intR, decR, extR, slR, segR, thenR, pnR, Int.reduceToNat, Int.reduceAdd, Int.reduceSub, Int.reduceLT, Int.reduceLE, Nat.reduceSub, Nat.reduceMul, Nat.reduceEqDiff] <;> rfl) | simp (disch := first | assumption | omega | (simp only [szR, entC_len, entC_all, fdC_len, fdC_all] <;> omega) | rfl | decide) only [gen0, gen1, gen2, rulesM, litR, bolR, Nat.reduceAdd, Nat.reduceLeDiff, numR, memR, valR, heapR, updR, intR, decR, extR, slR, segR, thenR, pnR, Int.reduceToNat, Int.reduceAdd, Int.reduceSub, Int.reduceLT, Int.reduceLE, Nat.reduceSub, Nat.reduceMul, Nat.reduceEqDiff]) (by first | with_reducible rfl | assumption | (simp (disch := first | assumption | omega | (simp only [szR, entC_len, entC_all, fdC_len, fdC_all] <;> omega) | rfl | decide) only [gen0, gen1, gen2, rulesM, litR, bolR, Nat.reduceAdd, Nat.reduceLeDiff, numR, memR, valR, heapR, updR, intR, decR, extR, slR, segR, thenR, pnR, Int.reduceToNat, Int.reduceAdd, Int.reduceSub, Int.reduceLT, Int.reduceLE, Nat.reduceSub, Nat.reduceMul, Nat.reduceEqDiff, hc11] <;> rfl) | simp (disch := first | assumption | omega | (simp only [szR, entC_len, entC_all, fdC_len, fdC_all] <;> omega) | rfl | decide) only [gen0, gen1, gen2, rulesM, litR, bolR, Nat.reduceAdd, Nat.reduceLeDiff, numR, memR, valR, heapR, updR, intR, decR, extR, slR, segR, thenR, pnR, Int.reduceToNat, Int.reduceAdd, Int.reduceSub, Int.reduceLT, Int.reduceLE, Nat.reduceSub, Nat.reduceMul, Nat.reduceEqDiff, hc11]) (by first | with_reducible rfl | assumption | (simp (disch := first | assumption | omega | (simp only [szR, entC_len, entC_all, fdC_len, fdC_all] <;> omega) | rfl | decide) only [gen0, gen1, gen2, rulesM, litR, bolR, Nat.reduceAdd, Nat.reduceLeDiff, numR, memR, valR, heapR, updR, intR, decR, extR, slR, segR, thenR, pnR, Int.reduceToNat, Int.reduceAdd, Int.reduceSub, Int.reduceLT, Int.reduceLE, Nat.reduceSub, Nat.reduceMul, Nat.reduceEqDiff, hc14] <;> rfl) | simp (disch := first | assumption | omega | (simp only [szR, entC_len, entC_all, fdC_len, fdC_all] <;> omega) | rfl | decide) only [gen0, gen1, gen2, rulesM, litR, bolR, Nat.reduceAdd, Nat.reduceLeDiff, numR, memR, valR, heapR, updR, intR, decR, extR, slR, segR, thenR, pnR, Int.reduceToNat, Int.reduceAdd, Int.reduceSub, Int.reduceLT, Int.reduceLE, Nat.reduceSub, Nat.reduceMul, Nat.reduceEqDiff, hc14]) (by first | with_reducible rfl | assumption | (simp (disch := first | assumption | omega | (simp only [szR, entC_len, entC_all, fdC_len, fdC_all] <;> omega) | rfl | decide) only [gen0, gen1, gen2, rulesM, litR, bolR, Nat.reduceAdd, Nat.reduceLeDiff, numR, memR, valR, heapR, updR, intR, decR, extR, slR, segR, thenR, pnR, Int.reduceToNat, Int.reduceAdd, Int.reduceSub, Int.reduceLT, Int.reduceLE, Nat.reduceSub, Nat.reduceMul, Nat.reduceEqDiff, hc5] <;> rfl) | simp (disch := first | assumption | omega | (simp only [szR, entC_len, entC_all, fdC_len, fdC_all] <;> omega) | rfl | decide) only [gen0, gen1, gen2, rulesM, litR, bolR, Nat.reduceAdd, Nat.reduceLeDiff, numR, memR, valR, heapR, updR, intR, decR, extR, slR, segR, thenR, pnR, Int.reduceToNat, Int.reduceAdd, Int.reduceSub, Int.reduceLT, Int.reduceLE, Nat.reduceSub, Nat.reduceMul, Nat.reduceEqDiff, hc5]) (by (repeat first | assumption | exact Ext.refl | apply Ext.alloc | apply Ext.drew | (refine Ext.updN ?_ ?_; (focus first | omega | (simp only [szR] <;> omega))) | (refine Ext.updI ?_ ?_; (focus (simp; done)))))
end Go.Proofs.Ytbigiabcgplkgaa
