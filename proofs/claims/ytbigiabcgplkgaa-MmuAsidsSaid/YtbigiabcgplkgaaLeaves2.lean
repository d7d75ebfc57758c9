/- A page is found by its three indices, and by no others: the walk; conditions: those of each theorem. -/
import Derived.Test.YtbigiabcgplkgaaLeaves
namespace Go.Proofs.Ytbigiabcgplkgaa
open Go.Fx
set_option maxRecDepth 100000
set_option linter.unusedSimpArgs false
set_option linter.unusedVariables false
theorem foldV1 : [.bool true, .bool false, .bool false, .bool false, .bool false, .bool false, .bool false, .bool false, .bool false, .bool false, .bool false, .bool false, .int .u64 1] = entC fV 1 := by simp [entC, fV]
theorem foldV2 : [.bool true, .bool false, .bool false, .bool false, .bool false, .bool false, .bool false, .bool false, .bool false, .bool false, .bool false, .bool false, .int .u64 2] = entC fV 2 := by simp [entC, fV]
theorem set12 (f : Nat → Bool) (n : Nat) : (entC f n).set 12 (.int .u64 7) = entC f 7 := by simp [entC]
theorem wkR_form (o : Option (Nat × Nat)) : ∃ (g : Nat → Bool) (n a : Nat) (e : Int), wkR o = .tuple #[.agg (fdC g n a).toArray, .int .i64 e] ∧ (o = none → e = 1) ∧ (∀ x at0, o = some (x, at0) → e = 0 ∧ g = fl x ∧ n = fr x ∧ a = at0) := by
  cases o with
  | none => exact ⟨noF, 0, 0, 1, rfl, fun _ => rfl, fun _ _ h => by cases h⟩
  | some p => exact ⟨fl p.1, fr p.1, p.2, 0, rfl, fun h => (by cases h), fun x a h => by cases h; exact ⟨rfl, rfl, rfl, rfl⟩⟩
theorem neqE {f g : Nat → Bool} {n m : Nat} (x y : Operand) (w : World) : (binV .neq 32 x y (.agg (entC f n).toArray) (.agg (entC g m).toArray)).run Try.prog w = .ok (.bool (!eqE f n g m)) w := by
  exact RM_neq_32 _ _ _ _ _ _ _ _ _ _ _ _ _ _ _ _ _ _ _ _ _ _ _ _ _ _ x y w
set_option maxHeartbeats 4000000 in
theorem leaves_reg {w : World} {gd : Bool} {J1 : List Value → World → Prop} {f g1 : Nat → Bool} {n1 a1 : Nat} {er1 er2 : Int} {b15 b5 i j k x y z : Nat} (h1 : gd = true → er1 = 0 ∧ g1 = fl (wd f 7) ∧ n1 = fr (wd f 7)) (h1' : gd = false → er1 = 1)
    (h2 : ¬ (x = i ∧ y = j ∧ z = k) → er2 = 1) (c15 : w.heap[b15]? = some (.cells (fdC g1 n1 a1).toArray 34 (0, 0))) (c5 : w.heap[b5]? = some (.cells (entC f 7).toArray 32 (0, 0)))
    (hJ : ∀ w', Ext [] w w' → J1 [.bool false] w') :
    ∀ v62 v87 v15 v5 v65 v29 v68 v32 v71 v35 v81 : Value, v62 = .int .i64 er1 → v87 = .bool gd → v15 = .pointer (some ⟨b15, 0, none⟩) → v5 = .pointer (some ⟨b5, 0, none⟩) → v65 = .int .i64 x → v29 = .int .i64 i → v68 = .int .i64 y → v32 = .int .i64 j → v71 = .int .i64 z → v35 = .int .i64 k → v81 = .int .i64 er2 →
    (drewK (fun w =>
  parR (fun I =>
  pV Try.prog (binV .eql 3 (.tmp 88) (.const (.int .i64 0)) v62 (.int .i64 0)) fun v89 =>
  pV Try.prog (binV .neq 4 (.tmp 89) (.tmp 90) v89 v87) fun v91 =>
  gdP (yb v91) false (fun k => k v87) fun v93 =>
  gdP (yb v91) false (fun k => k v93) fun v94 =>
  gdP (yb v94) true (fun k => pV Try.prog (Instr.fieldAt 34 v15 0) k) fun v95 =>
  gdP (yb v94) true (fun k => iV Try.prog I (Instr.loadAt 32 v95) k) fun v96 =>
  gdP (yb v94) true (fun k => iV Try.prog I (Instr.loadAt 32 v5) k) fun v97 =>
  gdP (yb v94) true (fun k => iN Try.prog I (callN (.func (.func 16) #[] #[]) #[v97]) k) fun v98 =>
  gdP (yb v94) true (fun k => iN Try.prog I (callN (.func (.func 17) #[] #[]) #[v98]) k) fun v99 =>
  gdP (yb v94) true (fun k => pV Try.prog (binV .neq 32 (.tmp 96) (.tmp 99) v96 v99) k) fun v100 =>
  gdP (yb v91) false (fun k => pN Try.prog (pickN v94 v100 (.bool false)) k) fun v101 =>
  pN Try.prog (pickN v91 (.bool true) v101) fun v102 =>
  gdP (yb v102) false (fun k => k v65) fun v104 =>
  gdP (yb v102) false (fun k => k v29) fun v105 =>
  gdP (yb v102) false (fun k => pV Try.prog (binV .neq 3 (.tmp 104) (.tmp 105) v104 v105) k) fun v106 =>
  gdP (yb v102) false (fun k => k v106) fun v107 =>
  gdP (yb v107) false (fun k => k v68) fun v108 =>
  gdP (yb v107) false (fun k => k v32) fun v109 =>
  gdP (yb v107) false (fun k => pV Try.prog (binV .neq 3 (.tmp 108) (.tmp 109) v108 v109) k) fun v110 =>
  gdP (yb v102) false (fun k => pN Try.prog (pickN v107 (.bool true) v110) k) fun v111 =>
  gdP (yb v102) false (fun k => k v111) fun v112 =>
  gdP (yb v112) false (fun k => k v71) fun v113 =>
  gdP (yb v112) false (fun k => k v35) fun v114 =>
  gdP (yb v112) false (fun k => pV Try.prog (binV .neq 3 (.tmp 113) (.tmp 114) v113 v114) k) fun v115 =>
  gdP (yb v102) false (fun k => pN Try.prog (pickN v112 (.bool true) v115) k) fun v116 =>
  gdP (yb v102) false (fun k => k v116) fun v117 =>
  gdP (yb v117) true (fun k => k v81) fun v118 =>
  gdP (yb v117) true (fun k => pV Try.prog (binV .neq 3 (.tmp 118) (.const (.int .i64 1)) v118 (.int .i64 1)) k) fun v119 =>
  gdP (yb v102) false (fun k => pN Try.prog (pickN v117 v119 (.bool false)) k) fun v120 =>
  pN Try.prog (pickN v102 (.bool true) v120) fun v121 =>
  allI I fun w =>
  J1 [v121] w) w) w) := by
  rintro _ _ _ _ _ _ _ _ _ _ _ rfl rfl rfl rfl rfl rfl rfl rfl rfl rfl rfl
  simp (disch := first | assumption | omega | (simp only [szR, entC_len, entC_all, fdC_len, fdC_all] <;> omega) | rfl | decide) only [gen0, gen1, gen2, rulesM, litR, bolR, Nat.reduceAdd, Nat.reduceLeDiff, numR, memR, valR, heapR, updR, intR, decR, extR, slR, segR, thenR, pnR, Int.reduceToNat, Int.reduceAdd, Int.reduceSub, Int.reduceLT, Int.reduceLE, Nat.reduceSub, Nat.reduceMul, Nat.reduceEqDiff]
  obtain ⟨I, hI⟩ : ∃ I : World → Prop, I = fun w' => Ext [] w w' := ⟨_, rfl⟩
  have hu : ∀ w', I w' → Ext [] w w' := by subst hI; exact fun _ h => h
  have keep : ∀ w' w2, I w' → Ext [] w' w2 → I w2 := by
    subst hI
    exact fun w' w2 hx h => hx.trans h (by simp)
  have L15 : ∀ K : Value → Prop, K (.agg (entC g1 n1).toArray) → iV Try.prog I (Instr.loadAt 32 (.pointer (some ⟨b15, 0, none⟩))) K := fun K hK => iV.intro _ (fun w' h => by
    have c := (hu w' h).at c15 (by simp)
    have hl : ∀ K' : Value → World → Prop, K' (.agg (entC g1 n1).toArray) w' → kV Try.prog (Instr.loadAt 32 (.pointer (some ⟨b15, 0, none⟩))) w' K' := fun K' hk => by
      simp (disch := first | assumption | omega | (simp only [szR, entC_len, entC_all, fdC_len, fdC_all] <;> omega) | rfl | decide) only [gen0, gen1, gen2, rulesM, litR, bolR, Nat.reduceAdd, Nat.reduceLeDiff, numR, memR, valR, heapR, updR, intR, decR, extR, slR, segR, thenR, pnR, Int.reduceToNat, Int.reduceAdd, Int.reduceSub, Int.reduceLT, Int.reduceLE, Nat.reduceSub, Nat.reduceMul, Nat.reduceEqDiff, c, fdC_sub13]
      exact hk
    exact hl _ ⟨rfl, h⟩) hK
  have L5 : ∀ K : Value → Prop, K (.agg (entC f 7).toArray) → iV Try.prog I (Instr.loadAt 32 (.pointer (some ⟨b5, 0, none⟩))) K := fun K hK => iV.intro _ (fun w' h => by
    have c := (hu w' h).at c5 (by simp)
    have hl : ∀ K' : Value → World → Prop, K' (.agg (entC f 7).toArray) w' → kV Try.prog (Instr.loadAt 32 (.pointer (some ⟨b5, 0, none⟩))) w' K' := fun K' hk => by
      simp (disch := first | assumption | omega | (simp only [szR, entC_len, entC_all, fdC_len, fdC_all] <;> omega) | rfl | decide) only [gen0, gen1, gen2, rulesM, litR, bolR, Nat.reduceAdd, Nat.reduceLeDiff, numR, memR, valR, heapR, updR, intR, decR, extR, slR, segR, thenR, pnR, Int.reduceToNat, Int.reduceAdd, Int.reduceSub, Int.reduceLT, Int.reduceLE, Nat.reduceSub, Nat.reduceMul, Nat.reduceEqDiff, c, entC_sub]
      exact hk
    exact hl _ ⟨rfl, h⟩) hK
  refine parR.intro I (by subst hI; (repeat first | assumption | exact Ext.refl | apply Ext.alloc | apply Ext.drew | (refine Ext.updN ?_ ?_; (focus first | omega | (simp only [szR] <;> omega))) | (refine Ext.updI ?_ ?_; (focus (simp; done))))) ?_
  cases gd with
  | false =>
    have e1 := h1' rfl
    subst e1
    by_cases q1 : x = i
    · by_cases q2 : y = j
      · by_cases q3 : z = k
        · simp (disch := first | assumption | omega | (simp only [szR, entC_len, entC_all, fdC_len, fdC_all] <;> omega) | rfl | decide) only [gen0, gen1, gen2, rulesM, litR, bolR, Nat.reduceAdd, Nat.reduceLeDiff, numR, memR, valR, heapR, updR, intR, decR, extR, slR, segR, thenR, pnR, Int.reduceToNat, Int.reduceAdd, Int.reduceSub, Int.reduceLT, Int.reduceLE, Nat.reduceSub, Nat.reduceMul, Nat.reduceEqDiff, gdPR, pN_pickE]
          exact allI_intro fun w' h => hJ _ (hu _ h)
        · have e2 := h2 fun h => q3 h.2.2
          subst e2
          simp (disch := first | assumption | omega | (simp only [szR, entC_len, entC_all, fdC_len, fdC_all] <;> omega) | rfl | decide) only [gen0, gen1, gen2, rulesM, litR, bolR, Nat.reduceAdd, Nat.reduceLeDiff, numR, memR, valR, heapR, updR, intR, decR, extR, slR, segR, thenR, pnR, Int.reduceToNat, Int.reduceAdd, Int.reduceSub, Int.reduceLT, Int.reduceLE, Nat.reduceSub, Nat.reduceMul, Nat.reduceEqDiff, gdPR, pN_pickE]
          exact allI_intro fun w' h => hJ _ (hu _ h)
      · have e2 := h2 fun h => q2 h.2.1
        subst e2
        simp (disch := first | assumption | omega | (simp only [szR, entC_len, entC_all, fdC_len, fdC_all] <;> omega) | rfl | decide) only [gen0, gen1, gen2, rulesM, litR, bolR, Nat.reduceAdd, Nat.reduceLeDiff, numR, memR, valR, heapR, updR, intR, decR, extR, slR, segR, thenR, pnR, Int.reduceToNat, Int.reduceAdd, Int.reduceSub, Int.reduceLT, Int.reduceLE, Nat.reduceSub, Nat.reduceMul, Nat.reduceEqDiff, gdPR, pN_pickE]
        exact allI_intro fun w' h => hJ _ (hu _ h)
    · have e2 := h2 fun h => q1 h.1
      subst e2
      simp (disch := first | assumption | omega | (simp only [szR, entC_len, entC_all, fdC_len, fdC_all] <;> omega) | rfl | decide) only [gen0, gen1, gen2, rulesM, litR, bolR, Nat.reduceAdd, Nat.reduceLeDiff, numR, memR, valR, heapR, updR, intR, decR, extR, slR, segR, thenR, pnR, Int.reduceToNat, Int.reduceAdd, Int.reduceSub, Int.reduceLT, Int.reduceLE, Nat.reduceSub, Nat.reduceMul, Nat.reduceEqDiff, gdPR, pN_pickE]
      exact allI_intro fun w' h => hJ _ (hu _ h)
  | true =>
    obtain ⟨e1, rfl, rfl⟩ := h1 rfl
    subst e1
    simp (disch := first | assumption | omega | (simp only [szR, entC_len, entC_all, fdC_len, fdC_all] <;> omega) | rfl | decide) only [gen0, gen1, gen2, rulesM, litR, bolR, Nat.reduceAdd, Nat.reduceLeDiff, numR, memR, valR, heapR, updR, intR, decR, extR, slR, segR, thenR, pnR, Int.reduceToNat, Int.reduceAdd, Int.reduceSub, Int.reduceLT, Int.reduceLE, Nat.reduceSub, Nat.reduceMul, Nat.reduceEqDiff, gdPR, pN_pickE]
    refine L15 _ ?_
    simp (disch := first | assumption | omega | (simp only [szR, entC_len, entC_all, fdC_len, fdC_all] <;> omega) | rfl | decide) only [gen0, gen1, gen2, rulesM, litR, bolR, Nat.reduceAdd, Nat.reduceLeDiff, numR, memR, valR, heapR, updR, intR, decR, extR, slR, segR, thenR, pnR, Int.reduceToNat, Int.reduceAdd, Int.reduceSub, Int.reduceLT, Int.reduceLE, Nat.reduceSub, Nat.reduceMul, Nat.reduceEqDiff, gdPR, pN_pickE]
    refine L5 _ ?_
    simp (disch := first | assumption | omega | (simp only [szR, entC_len, entC_all, fdC_len, fdC_all] <;> omega) | rfl | decide) only [gen0, gen1, gen2, rulesM, litR, bolR, Nat.reduceAdd, Nat.reduceLeDiff, numR, memR, valR, heapR, updR, intR, decR, extR, slR, segR, thenR, pnR, Int.reduceToNat, Int.reduceAdd, Int.reduceSub, Int.reduceLT, Int.reduceLE, Nat.reduceSub, Nat.reduceMul, Nat.reduceEqDiff, gdPR, pN_pickE]
    have hw7 := wd_lt f 7
    refine iN.intro (.int .u64 (wd f 7 : Nat)) (fun w' h => ?_) ?_
    · simp (disch := first | assumption | omega | (simp only [szR, entC_len, entC_all, fdC_len, fdC_all] <;> omega) | rfl | decide) only [gen0, gen1, gen2, rulesM, litR, bolR, Nat.reduceAdd, Nat.reduceLeDiff, numR, memR, valR, heapR, updR, intR, decR, extR, slR, segR, thenR, pnR, Int.reduceToNat, Int.reduceAdd, Int.reduceSub, Int.reduceLT, Int.reduceLE, Nat.reduceSub, Nat.reduceMul, Nat.reduceEqDiff]
      exact Word_spec (by omega) fun w2 hx2 => ⟨rfl, keep _ _ h hx2⟩
    simp (disch := first | assumption | omega | (simp only [szR, entC_len, entC_all, fdC_len, fdC_all] <;> omega) | rfl | decide) only [gen0, gen1, gen2, rulesM, litR, bolR, Nat.reduceAdd, Nat.reduceLeDiff, numR, memR, valR, heapR, updR, intR, decR, extR, slR, segR, thenR, pnR, Int.reduceToNat, Int.reduceAdd, Int.reduceSub, Int.reduceLT, Int.reduceLE, Nat.reduceSub, Nat.reduceMul, Nat.reduceEqDiff, gdPR, pN_pickE]
    refine iN.intro (.agg (entC (fl (wd f 7)) (fr (wd f 7))).toArray) (fun w' h => ?_) ?_
    · simp (disch := first | assumption | omega | (simp only [szR, entC_len, entC_all, fdC_len, fdC_all] <;> omega) | rfl | decide) only [gen0, gen1, gen2, rulesM, litR, bolR, Nat.reduceAdd, Nat.reduceLeDiff, numR, memR, valR, heapR, updR, intR, decR, extR, slR, segR, thenR, pnR, Int.reduceToNat, Int.reduceAdd, Int.reduceSub, Int.reduceLT, Int.reduceLE, Nat.reduceSub, Nat.reduceMul, Nat.reduceEqDiff]
      exact Of_spec (by omega) fun w2 hx2 => ⟨rfl, keep _ _ h hx2⟩
    by_cases q1 : x = i
    · by_cases q2 : y = j
      · by_cases q3 : z = k
        · simp (disch := first | assumption | omega | (simp only [szR, entC_len, entC_all, fdC_len, fdC_all] <;> omega) | rfl | decide) only [gen0, gen1, gen2, rulesM, litR, bolR, Nat.reduceAdd, Nat.reduceLeDiff, numR, memR, valR, heapR, updR, intR, decR, extR, slR, segR, thenR, pnR, Int.reduceToNat, Int.reduceAdd, Int.reduceSub, Int.reduceLT, Int.reduceLE, Nat.reduceSub, Nat.reduceMul, Nat.reduceEqDiff, gdPR, pN_pickE, neqE, eqE_self]
          exact allI_intro fun w' h => hJ _ (hu _ h)
        · have e2 := h2 fun h => q3 h.2.2
          subst e2
          simp (disch := first | assumption | omega | (simp only [szR, entC_len, entC_all, fdC_len, fdC_all] <;> omega) | rfl | decide) only [gen0, gen1, gen2, rulesM, litR, bolR, Nat.reduceAdd, Nat.reduceLeDiff, numR, memR, valR, heapR, updR, intR, decR, extR, slR, segR, thenR, pnR, Int.reduceToNat, Int.reduceAdd, Int.reduceSub, Int.reduceLT, Int.reduceLE, Nat.reduceSub, Nat.reduceMul, Nat.reduceEqDiff, gdPR, pN_pickE, neqE, eqE_self]
          exact allI_intro fun w' h => hJ _ (hu _ h)
      · have e2 := h2 fun h => q2 h.2.1
        subst e2
        simp (disch := first | assumption | omega | (simp only [szR, entC_len, entC_all, fdC_len, fdC_all] <;> omega) | rfl | decide) only [gen0, gen1, gen2, rulesM, litR, bolR, Nat.reduceAdd, Nat.reduceLeDiff, numR, memR, valR, heapR, updR, intR, decR, extR, slR, segR, thenR, pnR, Int.reduceToNat, Int.reduceAdd, Int.reduceSub, Int.reduceLT, Int.reduceLE, Nat.reduceSub, Nat.reduceMul, Nat.reduceEqDiff, gdPR, pN_pickE, neqE, eqE_self]
        exact allI_intro fun w' h => hJ _ (hu _ h)
    · have e2 := h2 fun h => q1 h.1
      subst e2
      simp (disch := first | assumption | omega | (simp only [szR, entC_len, entC_all, fdC_len, fdC_all] <;> omega) | rfl | decide) only [gen0, gen1, gen2, rulesM, litR, bolR, Nat.reduceAdd, Nat.reduceLeDiff, numR, memR, valR, heapR, updR, intR, decR, extR, slR, segR, thenR, pnR, Int.reduceToNat, Int.reduceAdd, Int.reduceSub, Int.reduceLT, Int.reduceLE, Nat.reduceSub, Nat.reduceMul, Nat.reduceEqDiff, gdPR, pN_pickE, neqE, eqE_self]
      exact allI_intro fun w' h => hJ _ (hu _ h)
set_option maxHeartbeats 4000000 in
theorem leaves_spec {w : World} {at0 ot : Int × Int × Int} {e : EntE} (hn : e.n < 18446744073709551616) {K : Value → World → Prop} (hK : ∀ w', Ext [] w w' → K (.bool true) w') : callsK Try.prog 5 #[.agg (i3C at0).toArray, .agg (i3C ot).toArray, .agg (entE e).toArray] w K := by
  obtain ⟨x1, x2, x3⟩ := at0
  obtain ⟨y1, y2, y3⟩ := ot
  obtain ⟨f, n⟩ := e
  have e1 : i3C (x1, x2, x3) = [.int .i64 x1, .int .i64 x2, .int .i64 x3] := rfl
  have e2 : i3C (y1, y2, y3) = [.int .i64 y1, .int .i64 y2, .int .i64 y3] := rfl
  have e3 : entE ⟨f, n⟩ = entC f n := rfl
  rw [e1, e2, e3]
  clear e1 e2 e3
  have hmk : ∀ (x : Int) (m : Nat), 0 < m → ∃ i : Nat, x % (m : Int) = i ∧ i < m := fun x m hm => ⟨(x % (m : Int)).toNat, by have := Int.emod_nonneg x (show (m : Int) ≠ 0 by omega); omega, by have := Int.emod_lt_of_pos x (show (0 : Int) < m by omega); have := Int.emod_nonneg x (show (m : Int) ≠ 0 by omega); omega⟩
  have k8 : ∀ x : Int, bitI .and .i64 x 255 = x % 256 := fun x => and_mask (k := .i64) (n := 8) (by decide)
  have k9 : ∀ x : Int, bitI .and .i64 x 511 = x % 512 := fun x => and_mask (k := .i64) (n := 9) (by decide)
  obtain ⟨i, hi, hi2⟩ := hmk x1 256 (by omega)
  obtain ⟨j, hj, hj2⟩ := hmk x2 512 (by omega)
  obtain ⟨k, hk, hk2⟩ := hmk x3 512 (by omega)
  obtain ⟨x, hx, hxb⟩ := hmk y1 256 (by omega)
  obtain ⟨y, hy, hyb⟩ := hmk y2 512 (by omega)
  obtain ⟨z, hz, hzb⟩ := hmk y3 512 (by omega)
  have m1 : bitI .and .i64 x1 255 = (i : Int) := (k8 x1).trans hi
  have m2 : bitI .and .i64 x2 511 = (j : Int) := (k9 x2).trans hj
  have m3 : bitI .and .i64 x3 511 = (k : Int) := (k9 x3).trans hk
  have m4 : bitI .and .i64 y1 255 = (x : Int) := (k8 y1).trans hx
  have m5 : bitI .and .i64 y2 511 = (y : Int) := (k9 y2).trans hy
  have m6 : bitI .and .i64 y3 511 = (z : Int) := (k9 y3).trans hz
  clear hi hj hk hx hy hz hmk k8 k9
  have hsf : ∀ f n a, splice [Value.bool false, .bool false, .bool false, .bool false, .bool false, .bool false, .bool false, .bool false, .bool false, .bool false, .bool false, .bool false, .int .u64 0, .int .u64 0] 0 (fdC f n a) = fdC f n a := fun f n a => splice_over (by rw [fdC_len]; rfl)
  have hse : ∀ f n, splice [Value.bool false, .bool false, .bool false, .bool false, .bool false, .bool false, .bool false, .bool false, .bool false, .bool false, .bool false, .bool false, .int .u64 0] 0 (entC f n) = entC f n := fun f n => splice_over (by rw [entC_len]; rfl)
  have hsr : ∀ L : List Value, L.length = 4 → splice [.int .i64 0, .slice none 0 0, .slice none 0 0, .slice none 0 0] 0 L = L := fun L h => splice_all (by rw [h]; rfl)
  apply F5_ok
  unfold F5
  simp (disch := first | assumption | omega | (simp only [szR, entC_len, entC_all, fdC_len, fdC_all] <;> omega) | rfl | decide) only [gen0, gen1, gen2, rulesM, litR, bolR, Nat.reduceAdd, Nat.reduceLeDiff, numR, memR, valR, heapR, updR, intR, decR, extR, slR, segR, thenR, pnR, Int.reduceToNat, Int.reduceAdd, Int.reduceSub, Int.reduceLT, Int.reduceLE, Nat.reduceSub, Nat.reduceMul, Nat.reduceEqDiff, m1, m2, m3, set12, foldV1, foldV2, hse, entC_sub, blLay, bs3]
  refine laid_spec (R := [⟨0, i, fV, 1⟩, ⟨1, j, fV, 2⟩, ⟨2, k, f, 7⟩]) (laysAt (R := [⟨0, i, fV, 1⟩, ⟨1, j, fV, 2⟩, ⟨2, k, f, 7⟩]) (by first | with_reducible rfl | assumption | (simp (disch := first | assumption | omega | (simp only [szR, entC_len, entC_all, fdC_len, fdC_all] <;> omega) | rfl | decide) only [gen0, gen1, gen2, rulesM, litR, bolR, Nat.reduceAdd, Nat.reduceLeDiff, numR, memR, valR, heapR, updR, intR, decR, extR, slR, segR, thenR, pnR, Int.reduceToNat, Int.reduceAdd, Int.reduceSub, Int.reduceLT, Int.reduceLE, Nat.reduceSub, Nat.reduceMul, Nat.reduceEqDiff] <;> rfl) | simp (disch := first | assumption | omega | (simp only [szR, entC_len, entC_all, fdC_len, fdC_all] <;> omega) | rfl | decide) only [gen0, gen1, gen2, rulesM, litR, bolR, Nat.reduceAdd, Nat.reduceLeDiff, numR, memR, valR, heapR, updR, intR, decR, extR, slR, segR, thenR, pnR, Int.reduceToNat, Int.reduceAdd, Int.reduceSub, Int.reduceLT, Int.reduceLE, Nat.reduceSub, Nat.reduceMul, Nat.reduceEqDiff]) (by simp)) (by simp) fun w1 r q base c g L P va vb hm hr hc hrb hqb hwr hwq hbw hx => ?_
  have hxw : Ext [] w w1 := Ext.trans (S := []) (by (repeat first | assumption | exact Ext.refl | apply Ext.alloc | apply Ext.drew | (refine Ext.updN ?_ ?_; (focus first | omega | (simp only [szR] <;> omega))) | (refine Ext.updI ?_ ?_; (focus (simp; done))))) hx (by simp)
  have hs1 := hx.size
  simp only [szR] at hs1
  have hk1 := kept0 hx
  have hc4 : w1.heap[w.heap.size + 1]? = some (.cells [.int .i64 y1, .int .i64 y2, .int .i64 y3].toArray 51 (0, 0)) := (by first | with_reducible rfl | assumption | (simp (disch := first | assumption | omega | (simp only [szR, entC_len, entC_all, fdC_len, fdC_all] <;> omega) | rfl | decide) only [gen0, gen1, gen2, rulesM, litR, bolR, Nat.reduceAdd, Nat.reduceLeDiff, numR, memR, valR, heapR, updR, intR, decR, extR, slR, segR, thenR, pnR, Int.reduceToNat, Int.reduceAdd, Int.reduceSub, Int.reduceLT, Int.reduceLE, Nat.reduceSub, Nat.reduceMul, Nat.reduceEqDiff, hk1] <;> rfl) | simp (disch := first | assumption | omega | (simp only [szR, entC_len, entC_all, fdC_len, fdC_all] <;> omega) | rfl | decide) only [gen0, gen1, gen2, rulesM, litR, bolR, Nat.reduceAdd, Nat.reduceLeDiff, numR, memR, valR, heapR, updR, intR, decR, extR, slR, segR, thenR, pnR, Int.reduceToNat, Int.reduceAdd, Int.reduceSub, Int.reduceLT, Int.reduceLE, Nat.reduceSub, Nat.reduceMul, Nat.reduceEqDiff, hk1])
  have hc5 : w1.heap[w.heap.size + 1 + 1]? = some (.cells (entC f 7).toArray 32 (0, 0)) := (by first | with_reducible rfl | assumption | (simp (disch := first | assumption | omega | (simp only [szR, entC_len, entC_all, fdC_len, fdC_all] <;> omega) | rfl | decide) only [gen0, gen1, gen2, rulesM, litR, bolR, Nat.reduceAdd, Nat.reduceLeDiff, numR, memR, valR, heapR, updR, intR, decR, extR, slR, segR, thenR, pnR, Int.reduceToNat, Int.reduceAdd, Int.reduceSub, Int.reduceLT, Int.reduceLE, Nat.reduceSub, Nat.reduceMul, Nat.reduceEqDiff, hk1, set12] <;> rfl) | simp (disch := first | assumption | omega | (simp only [szR, entC_len, entC_all, fdC_len, fdC_all] <;> omega) | rfl | decide) only [gen0, gen1, gen2, rulesM, litR, bolR, Nat.reduceAdd, Nat.reduceLeDiff, numR, memR, valR, heapR, updR, intR, decR, extR, slR, segR, thenR, pnR, Int.reduceToNat, Int.reduceAdd, Int.reduceSub, Int.reduceLT, Int.reduceLE, Nat.reduceSub, Nat.reduceMul, Nat.reduceEqDiff, hk1, set12])
  have ht : ([⟨0, i, fV, 1⟩, ⟨1, j, fV, 2⟩, ⟨2, k, f, 7⟩] : List LayE).take 60 = [⟨0, i, fV, 1⟩, ⟨1, j, fV, 2⟩, ⟨2, k, f, 7⟩] := rfl
  rw [ht] at hm hr
  obtain ⟨hlenL, hallL, hsubL⟩ := hr.cells
  simp (disch := first | assumption | omega | (simp only [szR, entC_len, entC_all, fdC_len, fdC_all] <;> omega) | rfl | decide) only [gen0, gen1, gen2, rulesM, litR, bolR, Nat.reduceAdd, Nat.reduceLeDiff, numR, memR, valR, heapR, updR, intR, decR, extR, slR, segR, thenR, pnR, Int.reduceToNat, Int.reduceAdd, Int.reduceSub, Int.reduceLT, Int.reduceLE, Nat.reduceSub, Nat.reduceMul, Nat.reduceEqDiff, hlenL, hallL, hsr]
  refine placeF_spec hi2 hj2 hk2 ?_
  simp (disch := first | assumption | omega | (simp only [szR, entC_len, entC_all, fdC_len, fdC_all] <;> omega) | rfl | decide) only [gen0, gen1, gen2, rulesM, litR, bolR, Nat.reduceAdd, Nat.reduceLeDiff, numR, memR, valR, heapR, updR, intR, decR, extR, slR, segR, thenR, pnR, Int.reduceToNat, Int.reduceAdd, Int.reduceSub, Int.reduceLT, Int.reduceLE, Nat.reduceSub, Nat.reduceMul, Nat.reduceEqDiff]
  have hpl : ∀ a b c, a < 256 → b < 512 → c < 512 → pl a b c < 18446744073709551616 := fun a b c _ _ _ => by unfold pl; omega
  refine walk_spec (root := 0) (va := pl i j k) (hm.ext (S := []) (by (repeat first | assumption | exact Ext.refl | apply Ext.alloc | apply Ext.drew | (refine Ext.updN ?_ ?_; (focus first | omega | (simp only [szR] <;> omega))) | (refine Ext.updI ?_ ?_; (focus (simp; done))))) (by simp) (by simp)) (by omega) (by omega) (hpl _ _ _ hi2 hj2 hk2) fun w2 hx2 => ?_
  rw [walkA_laid, walk3 hi2 hj2 hk2 hi2 hj2 hk2]
  have hx12 : Ext [] w1 w2 := Ext.trans (S := []) (by (repeat first | assumption | exact Ext.refl | apply Ext.alloc | apply Ext.drew | (refine Ext.updN ?_ ?_; (focus first | omega | (simp only [szR] <;> omega))) | (refine Ext.updI ?_ ?_; (focus (simp; done))))) hx2 (by simp)
  have hs2 := hx2.size
  simp only [szR] at hs2
  have hc4 := hx12.at hc4 (by simp)
  have hc5 := hx12.at hc5 (by simp)
  obtain ⟨g1, n1, a1, er1, hr1, hn1, hsm1⟩ := wkR_form (if (i = i ∧ j = j ∧ k = k) ∧ (leaf f && right f 7) = true then some (wd f 7, 8192 + k * 8) else none)
  rw [hr1]
  simp (disch := first | assumption | omega | (simp only [szR, entC_len, entC_all, fdC_len, fdC_all] <;> omega) | rfl | decide) only [gen0, gen1, gen2, rulesM, litR, bolR, Nat.reduceAdd, Nat.reduceLeDiff, numR, memR, valR, heapR, updR, intR, decR, extR, slR, segR, thenR, pnR, Int.reduceToNat, Int.reduceAdd, Int.reduceSub, Int.reduceLT, Int.reduceLE, Nat.reduceSub, Nat.reduceMul, Nat.reduceEqDiff, hsf, m4, m5, m6, hc4]
  refine placeF_spec hxb hyb hzb ?_
  simp (disch := first | assumption | omega | (simp only [szR, entC_len, entC_all, fdC_len, fdC_all] <;> omega) | rfl | decide) only [gen0, gen1, gen2, rulesM, litR, bolR, Nat.reduceAdd, Nat.reduceLeDiff, numR, memR, valR, heapR, updR, intR, decR, extR, slR, segR, thenR, pnR, Int.reduceToNat, Int.reduceAdd, Int.reduceSub, Int.reduceLT, Int.reduceLE, Nat.reduceSub, Nat.reduceMul, Nat.reduceEqDiff]
  refine walk_spec (root := 0) (va := pl x y z) ((hm.ext hx12 (by simp) (by simp)).ext (S := []) (by (repeat first | assumption | exact Ext.refl | apply Ext.alloc | apply Ext.drew | (refine Ext.updN ?_ ?_; (focus first | omega | (simp only [szR] <;> omega))) | (refine Ext.updI ?_ ?_; (focus (simp; done))))) (by simp) (by simp)) (by omega) (by omega) (hpl _ _ _ hxb hyb hzb) fun w3 hx3 => ?_
  rw [walkA_laid, walk3 hi2 hj2 hk2 hxb hyb hzb]
  have hx23 : Ext [] w2 w3 := Ext.trans (S := []) (by (repeat first | assumption | exact Ext.refl | apply Ext.alloc | apply Ext.drew | (refine Ext.updN ?_ ?_; (focus first | omega | (simp only [szR] <;> omega))) | (refine Ext.updI ?_ ?_; (focus (simp; done))))) hx3 (by simp)
  have hs3 := hx3.size
  simp only [szR] at hs3
  have hk3 := kept0 hx3
  have hc5 := hx23.at hc5 (by simp)
  have hc15 : w3.heap[w2.heap.size]? = some (.cells (fdC g1 n1 a1).toArray 34 (0, 0)) := (by first | with_reducible rfl | assumption | (simp (disch := first | assumption | omega | (simp only [szR, entC_len, entC_all, fdC_len, fdC_all] <;> omega) | rfl | decide) only [gen0, gen1, gen2, rulesM, litR, bolR, Nat.reduceAdd, Nat.reduceLeDiff, numR, memR, valR, heapR, updR, intR, decR, extR, slR, segR, thenR, pnR, Int.reduceToNat, Int.reduceAdd, Int.reduceSub, Int.reduceLT, Int.reduceLE, Nat.reduceSub, Nat.reduceMul, Nat.reduceEqDiff, hk3, hsf] <;> rfl) | simp (disch := first | assumption | omega | (simp only [szR, entC_len, entC_all, fdC_len, fdC_all] <;> omega) | rfl | decide) only [gen0, gen1, gen2, rulesM, litR, bolR, Nat.reduceAdd, Nat.reduceLeDiff, numR, memR, valR, heapR, updR, intR, decR, extR, slR, segR, thenR, pnR, Int.reduceToNat, Int.reduceAdd, Int.reduceSub, Int.reduceLT, Int.reduceLE, Nat.reduceSub, Nat.reduceMul, Nat.reduceEqDiff, hk3, hsf])
  obtain ⟨g2, n2, a2, er2, hr2, hn2, hsm2⟩ := wkR_form (if (x = i ∧ y = j ∧ z = k) ∧ (leaf f && right f 7) = true then some (wd f 7, 8192 + k * 8) else none)
  rw [hr2]
  simp (disch := first | assumption | omega | (simp only [szR, entC_len, entC_all, fdC_len, fdC_all] <;> omega) | rfl | decide) only [gen0, gen1, gen2, rulesM, litR, bolR, Nat.reduceAdd, Nat.reduceLeDiff, numR, memR, valR, heapR, updR, intR, decR, extR, slR, segR, thenR, pnR, Int.reduceToNat, Int.reduceAdd, Int.reduceSub, Int.reduceLT, Int.reduceLE, Nat.reduceSub, Nat.reduceMul, Nat.reduceEqDiff, hsf, hc5, entC_sub]
  have hxw3 : Ext [] w w3 := (hxw.trans hx12 (by simp)).trans hx23 (by simp)
  refine Leaf_spec fun w4 hx4 => ?_
  have hx34 : Ext [] w3 w4 := Ext.trans (S := []) (by (repeat first | assumption | exact Ext.refl | apply Ext.alloc | apply Ext.drew | (refine Ext.updN ?_ ?_; (focus first | omega | (simp only [szR] <;> omega))) | (refine Ext.updI ?_ ?_; (focus (simp; done))))) hx4 (by simp)
  have hs4 := hx4.size
  simp only [szR] at hs4
  have hc5 := hx34.at hc5 (by simp)
  have hc15 := hx34.at hc15 (by simp)
  have hxw4 := hxw3.trans hx34 (by simp)
  have hgood : ∀ gd, gd = (leaf f && right f 7) → (gd = true → er1 = 0 ∧ g1 = fl (wd f 7) ∧ n1 = fr (wd f 7)) ∧ (gd = false → er1 = 1) ∧ (¬ (x = i ∧ y = j ∧ z = k) → er2 = 1) := by
    rintro gd rfl
    refine ⟨fun h => ?_, fun h => ?_, fun h => ?_⟩
    · obtain ⟨q1, q2, q3, -⟩ := hsm1 _ _ (if_pos ⟨⟨rfl, rfl, rfl⟩, h⟩)
      exact ⟨q1, q2, q3⟩
    · exact hn1 (if_neg fun hc => by rw [h] at hc; exact absurd hc.2 (by simp))
    · exact hn2 (if_neg fun hc => h hc.1)
  clear hsm1 hsm2 hn1 hn2 hr1 hr2
  cases hl : leaf f
  · simp (disch := first | assumption | omega | (simp only [szR, entC_len, entC_all, fdC_len, fdC_all] <;> omega) | rfl | decide) only [gen0, gen1, gen2, rulesM, litR, bolR, Nat.reduceAdd, Nat.reduceLeDiff, numR, memR, valR, heapR, updR, intR, decR, extR, slR, segR, thenR, pnR, Int.reduceToNat, Int.reduceAdd, Int.reduceSub, Int.reduceLT, Int.reduceLE, Nat.reduceSub, Nat.reduceMul, Nat.reduceEqDiff, joinBR]
    refine joinL.intro fun J1 hJ1 => ?_
    obtain ⟨q1, q2, q3⟩ := hgood false (by rw [hl]; rfl)
    refine leaves_reg q1 q2 q3 hc15 hc5 (fun w6 hx6 => ?_) _ _ _ _ _ _ _ _ _ _ _ rfl rfl rfl rfl rfl rfl rfl rfl rfl rfl rfl
    apply hJ1
    intro _
    have hc6 := hx6.at hc5 (by simp)
    have hx6w := (hxw4).trans hx6 (by simp)
    simp (disch := first | assumption | omega | (simp only [szR, entC_len, entC_all, fdC_len, fdC_all] <;> omega) | rfl | decide) only [gen0, gen1, gen2, rulesM, litR, bolR, Nat.reduceAdd, Nat.reduceLeDiff, numR, memR, valR, heapR, updR, intR, decR, extR, slR, segR, thenR, pnR, Int.reduceToNat, Int.reduceAdd, Int.reduceSub, Int.reduceLT, Int.reduceLE, Nat.reduceSub, Nat.reduceMul, Nat.reduceEqDiff, hc6, entC_sub, blLay, bs1]
    refine laid_spec (R := [⟨0, i, f, 7⟩]) (laysAt (R := [⟨0, i, f, 7⟩]) (by first | with_reducible rfl | assumption | (simp (disch := first | assumption | omega | (simp only [szR, entC_len, entC_all, fdC_len, fdC_all] <;> omega) | rfl | decide) only [gen0, gen1, gen2, rulesM, litR, bolR, Nat.reduceAdd, Nat.reduceLeDiff, numR, memR, valR, heapR, updR, intR, decR, extR, slR, segR, thenR, pnR, Int.reduceToNat, Int.reduceAdd, Int.reduceSub, Int.reduceLT, Int.reduceLE, Nat.reduceSub, Nat.reduceMul, Nat.reduceEqDiff] <;> rfl) | simp (disch := first | assumption | omega | (simp only [szR, entC_len, entC_all, fdC_len, fdC_all] <;> omega) | rfl | decide) only [gen0, gen1, gen2, rulesM, litR, bolR, Nat.reduceAdd, Nat.reduceLeDiff, numR, memR, valR, heapR, updR, intR, decR, extR, slR, segR, thenR, pnR, Int.reduceToNat, Int.reduceAdd, Int.reduceSub, Int.reduceLT, Int.reduceLE, Nat.reduceSub, Nat.reduceMul, Nat.reduceEqDiff]) (by simp)) (by simp) fun w7 r' q' base' c' g' L' P' va' vb' hm' hr' hc' hrb' hqb' hwr' hwq' hbw' hx7 => ?_
    have ht' : ([⟨0, i, f, 7⟩] : List LayE).take 60 = [⟨0, i, f, 7⟩] := rfl
    rw [ht'] at hm' hr'
    obtain ⟨hlenL', hallL', hsubL'⟩ := hr'.cells
    have hx7w : Ext [] w w7 := Ext.trans (S := []) (by (repeat first | assumption | exact Ext.refl | apply Ext.alloc | apply Ext.drew | (refine Ext.updN ?_ ?_; (focus first | omega | (simp only [szR] <;> omega))) | (refine Ext.updI ?_ ?_; (focus (simp; done))))) hx7 (by simp)
    simp (disch := first | assumption | omega | (simp only [szR, entC_len, entC_all, fdC_len, fdC_all] <;> omega) | rfl | decide) only [gen0, gen1, gen2, rulesM, litR, bolR, Nat.reduceAdd, Nat.reduceLeDiff, numR, memR, valR, heapR, updR, intR, decR, extR, slR, segR, thenR, pnR, Int.reduceToNat, Int.reduceAdd, Int.reduceSub, Int.reduceLT, Int.reduceLE, Nat.reduceSub, Nat.reduceMul, Nat.reduceEqDiff, hlenL', hallL', hsr]
    refine placeF_spec hi2 hj2 hk2 ?_
    simp (disch := first | assumption | omega | (simp only [szR, entC_len, entC_all, fdC_len, fdC_all] <;> omega) | rfl | decide) only [gen0, gen1, gen2, rulesM, litR, bolR, Nat.reduceAdd, Nat.reduceLeDiff, numR, memR, valR, heapR, updR, intR, decR, extR, slR, segR, thenR, pnR, Int.reduceToNat, Int.reduceAdd, Int.reduceSub, Int.reduceLT, Int.reduceLE, Nat.reduceSub, Nat.reduceMul, Nat.reduceEqDiff]
    refine walk_spec (root := 0) (va := pl i j k) (hm'.ext (S := []) (by (repeat first | assumption | exact Ext.refl | apply Ext.alloc | apply Ext.drew | (refine Ext.updN ?_ ?_; (focus first | omega | (simp only [szR] <;> omega))) | (refine Ext.updI ?_ ?_; (focus (simp; done))))) (by simp) (by simp)) (by omega) (by omega) (hpl _ _ _ hi2 hj2 hk2) fun w8 hx8 => ?_
    rw [walkA_laid, walk1 hi2 hi2 hj2 hk2]
    simp only [wkR]
    have hx8w : Ext [] w w8 := Ext.trans (S := []) (by (repeat first | assumption | exact Ext.refl | apply Ext.alloc | apply Ext.drew | (refine Ext.updN ?_ ?_; (focus first | omega | (simp only [szR] <;> omega))) | (refine Ext.updI ?_ ?_; (focus (simp; done))))) hx8 (by simp)
    simp (disch := first | assumption | omega | (simp only [szR, entC_len, entC_all, fdC_len, fdC_all] <;> omega) | rfl | decide) only [gen0, gen1, gen2, rulesM, litR, bolR, Nat.reduceAdd, Nat.reduceLeDiff, numR, memR, valR, heapR, updR, intR, decR, extR, slR, segR, thenR, pnR, Int.reduceToNat, Int.reduceAdd, Int.reduceSub, Int.reduceLT, Int.reduceLE, Nat.reduceSub, Nat.reduceMul, Nat.reduceEqDiff, joinR, hsf]
    refine one_spec fun w9 hx9 => ?_
    simp (disch := first | assumption | omega | (simp only [szR, entC_len, entC_all, fdC_len, fdC_all] <;> omega) | rfl | decide) only [gen0, gen1, gen2, rulesM, litR, bolR, Nat.reduceAdd, Nat.reduceLeDiff, numR, memR, valR, heapR, updR, intR, decR, extR, slR, segR, thenR, pnR, Int.reduceToNat, Int.reduceAdd, Int.reduceSub, Int.reduceLT, Int.reduceLE, Nat.reduceSub, Nat.reduceMul, Nat.reduceEqDiff, joinR]
    exact hK _ (Ext.trans (S := []) (by (repeat first | assumption | exact Ext.refl | apply Ext.alloc | apply Ext.drew | (refine Ext.updN ?_ ?_; (focus first | omega | (simp only [szR] <;> omega))) | (refine Ext.updI ?_ ?_; (focus (simp; done))))) hx9 (by simp))
  · refine joinK.intro ?_
    simp (disch := first | assumption | omega | (simp only [szR, entC_len, entC_all, fdC_len, fdC_all] <;> omega) | rfl | decide) only [gen0, gen1, gen2, rulesM, litR, bolR, Nat.reduceAdd, Nat.reduceLeDiff, numR, memR, valR, heapR, updR, intR, decR, extR, slR, segR, thenR, pnR, Int.reduceToNat, Int.reduceAdd, Int.reduceSub, Int.reduceLT, Int.reduceLE, Nat.reduceSub, Nat.reduceMul, Nat.reduceEqDiff, hc5, entC_sub]
    refine Right_spec (by omega) fun w5 hx5 => ?_
    have hx45 : Ext [] w4 w5 := Ext.trans (S := []) (by (repeat first | assumption | exact Ext.refl | apply Ext.alloc | apply Ext.drew | (refine Ext.updN ?_ ?_; (focus first | omega | (simp only [szR] <;> omega))) | (refine Ext.updI ?_ ?_; (focus (simp; done))))) hx5 (by simp)
    have hc55 := hx45.at hc5 (by simp)
    have hc155 := hx45.at hc15 (by simp)
    have hxw5 := hxw4.trans hx45 (by simp)
    cases hr7 : right f 7
    · simp (disch := first | assumption | omega | (simp only [szR, entC_len, entC_all, fdC_len, fdC_all] <;> omega) | rfl | decide) only [gen0, gen1, gen2, rulesM, litR, bolR, Nat.reduceAdd, Nat.reduceLeDiff, numR, memR, valR, heapR, updR, intR, decR, extR, slR, segR, thenR, pnR, Int.reduceToNat, Int.reduceAdd, Int.reduceSub, Int.reduceLT, Int.reduceLE, Nat.reduceSub, Nat.reduceMul, Nat.reduceEqDiff]
      refine joinL.intro fun J1 hJ1 => ?_
      obtain ⟨q1, q2, q3⟩ := hgood false (by rw [hl, hr7]; rfl)
      refine leaves_reg q1 q2 q3 hc155 hc55 (fun w6 hx6 => ?_) _ _ _ _ _ _ _ _ _ _ _ rfl rfl rfl rfl rfl rfl rfl rfl rfl rfl rfl
      apply hJ1
      intro _
      have hc6 := hx6.at hc55 (by simp)
      have hx6w := (hxw5).trans hx6 (by simp)
      simp (disch := first | assumption | omega | (simp only [szR, entC_len, entC_all, fdC_len, fdC_all] <;> omega) | rfl | decide) only [gen0, gen1, gen2, rulesM, litR, bolR, Nat.reduceAdd, Nat.reduceLeDiff, numR, memR, valR, heapR, updR, intR, decR, extR, slR, segR, thenR, pnR, Int.reduceToNat, Int.reduceAdd, Int.reduceSub, Int.reduceLT, Int.reduceLE, Nat.reduceSub, Nat.reduceMul, Nat.reduceEqDiff, hc6, entC_sub, blLay, bs1]
      refine laid_spec (R := [⟨0, i, f, 7⟩]) (laysAt (R := [⟨0, i, f, 7⟩]) (by first | with_reducible rfl | assumption | (simp (disch := first | assumption | omega | (simp only [szR, entC_len, entC_all, fdC_len, fdC_all] <;> omega) | rfl | decide) only [gen0, gen1, gen2, rulesM, litR, bolR, Nat.reduceAdd, Nat.reduceLeDiff, numR, memR, valR, heapR, updR, intR, decR, extR, slR, segR, thenR, pnR, Int.reduceToNat, Int.reduceAdd, Int.reduceSub, Int.reduceLT, Int.reduceLE, Nat.reduceSub, Nat.reduceMul, Nat.reduceEqDiff] <;> rfl) | simp (disch := first | assumption | omega | (simp only [szR, entC_len, entC_all, fdC_len, fdC_all] <;> omega) | rfl | decide) only [gen0, gen1, gen2, rulesM, litR, bolR, Nat.reduceAdd, Nat.reduceLeDiff, numR, memR, valR, heapR, updR, intR, decR, extR, slR, segR, thenR, pnR, Int.reduceToNat, Int.reduceAdd, Int.reduceSub, Int.reduceLT, Int.reduceLE, Nat.reduceSub, Nat.reduceMul, Nat.reduceEqDiff]) (by simp)) (by simp) fun w7 r' q' base' c' g' L' P' va' vb' hm' hr' hc' hrb' hqb' hwr' hwq' hbw' hx7 => ?_
      have ht' : ([⟨0, i, f, 7⟩] : List LayE).take 60 = [⟨0, i, f, 7⟩] := rfl
      rw [ht'] at hm' hr'
      obtain ⟨hlenL', hallL', hsubL'⟩ := hr'.cells
      have hx7w : Ext [] w w7 := Ext.trans (S := []) (by (repeat first | assumption | exact Ext.refl | apply Ext.alloc | apply Ext.drew | (refine Ext.updN ?_ ?_; (focus first | omega | (simp only [szR] <;> omega))) | (refine Ext.updI ?_ ?_; (focus (simp; done))))) hx7 (by simp)
      simp (disch := first | assumption | omega | (simp only [szR, entC_len, entC_all, fdC_len, fdC_all] <;> omega) | rfl | decide) only [gen0, gen1, gen2, rulesM, litR, bolR, Nat.reduceAdd, Nat.reduceLeDiff, numR, memR, valR, heapR, updR, intR, decR, extR, slR, segR, thenR, pnR, Int.reduceToNat, Int.reduceAdd, Int.reduceSub, Int.reduceLT, Int.reduceLE, Nat.reduceSub, Nat.reduceMul, Nat.reduceEqDiff, hlenL', hallL', hsr]
      refine placeF_spec hi2 hj2 hk2 ?_
      simp (disch := first | assumption | omega | (simp only [szR, entC_len, entC_all, fdC_len, fdC_all] <;> omega) | rfl | decide) only [gen0, gen1, gen2, rulesM, litR, bolR, Nat.reduceAdd, Nat.reduceLeDiff, numR, memR, valR, heapR, updR, intR, decR, extR, slR, segR, thenR, pnR, Int.reduceToNat, Int.reduceAdd, Int.reduceSub, Int.reduceLT, Int.reduceLE, Nat.reduceSub, Nat.reduceMul, Nat.reduceEqDiff]
      refine walk_spec (root := 0) (va := pl i j k) (hm'.ext (S := []) (by (repeat first | assumption | exact Ext.refl | apply Ext.alloc | apply Ext.drew | (refine Ext.updN ?_ ?_; (focus first | omega | (simp only [szR] <;> omega))) | (refine Ext.updI ?_ ?_; (focus (simp; done))))) (by simp) (by simp)) (by omega) (by omega) (hpl _ _ _ hi2 hj2 hk2) fun w8 hx8 => ?_
      rw [walkA_laid, walk1 hi2 hi2 hj2 hk2]
      simp only [wkR]
      have hx8w : Ext [] w w8 := Ext.trans (S := []) (by (repeat first | assumption | exact Ext.refl | apply Ext.alloc | apply Ext.drew | (refine Ext.updN ?_ ?_; (focus first | omega | (simp only [szR] <;> omega))) | (refine Ext.updI ?_ ?_; (focus (simp; done))))) hx8 (by simp)
      simp (disch := first | assumption | omega | (simp only [szR, entC_len, entC_all, fdC_len, fdC_all] <;> omega) | rfl | decide) only [gen0, gen1, gen2, rulesM, litR, bolR, Nat.reduceAdd, Nat.reduceLeDiff, numR, memR, valR, heapR, updR, intR, decR, extR, slR, segR, thenR, pnR, Int.reduceToNat, Int.reduceAdd, Int.reduceSub, Int.reduceLT, Int.reduceLE, Nat.reduceSub, Nat.reduceMul, Nat.reduceEqDiff, joinR, hsf]
      refine one_spec fun w9 hx9 => ?_
      simp (disch := first | assumption | omega | (simp only [szR, entC_len, entC_all, fdC_len, fdC_all] <;> omega) | rfl | decide) only [gen0, gen1, gen2, rulesM, litR, bolR, Nat.reduceAdd, Nat.reduceLeDiff, numR, memR, valR, heapR, updR, intR, decR, extR, slR, segR, thenR, pnR, Int.reduceToNat, Int.reduceAdd, Int.reduceSub, Int.reduceLT, Int.reduceLE, Nat.reduceSub, Nat.reduceMul, Nat.reduceEqDiff, joinR]
      exact hK _ (Ext.trans (S := []) (by (repeat first | assumption | exact Ext.refl | apply Ext.alloc | apply Ext.drew | (refine Ext.updN ?_ ?_; (focus first | omega | (simp only [szR] <;> omega))) | (refine Ext.updI ?_ ?_; (focus (simp; done))))) hx9 (by simp))
    · simp (disch := first | assumption | omega | (simp only [szR, entC_len, entC_all, fdC_len, fdC_all] <;> omega) | rfl | decide) only [gen0, gen1, gen2, rulesM, litR, bolR, Nat.reduceAdd, Nat.reduceLeDiff, numR, memR, valR, heapR, updR, intR, decR, extR, slR, segR, thenR, pnR, Int.reduceToNat, Int.reduceAdd, Int.reduceSub, Int.reduceLT, Int.reduceLE, Nat.reduceSub, Nat.reduceMul, Nat.reduceEqDiff]
      refine joinL.intro fun J1 hJ1 => ?_
      obtain ⟨q1, q2, q3⟩ := hgood true (by rw [hl, hr7]; rfl)
      refine leaves_reg q1 q2 q3 hc155 hc55 (fun w6 hx6 => ?_) _ _ _ _ _ _ _ _ _ _ _ rfl rfl rfl rfl rfl rfl rfl rfl rfl rfl rfl
      apply hJ1
      intro _
      have hc6 := hx6.at hc55 (by simp)
      have hx6w := (hxw5).trans hx6 (by simp)
      simp (disch := first | assumption | omega | (simp only [szR, entC_len, entC_all, fdC_len, fdC_all] <;> omega) | rfl | decide) only [gen0, gen1, gen2, rulesM, litR, bolR, Nat.reduceAdd, Nat.reduceLeDiff, numR, memR, valR, heapR, updR, intR, decR, extR, slR, segR, thenR, pnR, Int.reduceToNat, Int.reduceAdd, Int.reduceSub, Int.reduceLT, Int.reduceLE, Nat.reduceSub, Nat.reduceMul, Nat.reduceEqDiff, hc6, entC_sub, blLay, bs1]
      refine laid_spec (R := [⟨0, i, f, 7⟩]) (laysAt (R := [⟨0, i, f, 7⟩]) (by first | with_reducible rfl | assumption | (simp (disch := first | assumption | omega | (simp only [szR, entC_len, entC_all, fdC_len, fdC_all] <;> omega) | rfl | decide) only [gen0, gen1, gen2, rulesM, litR, bolR, Nat.reduceAdd, Nat.reduceLeDiff, numR, memR, valR, heapR, updR, intR, decR, extR, slR, segR, thenR, pnR, Int.reduceToNat, Int.reduceAdd, Int.reduceSub, Int.reduceLT, Int.reduceLE, Nat.reduceSub, Nat.reduceMul, Nat.reduceEqDiff] <;> rfl) | simp (disch := first | assumption | omega | (simp only [szR, entC_len, entC_all, fdC_len, fdC_all] <;> omega) | rfl | decide) only [gen0, gen1, gen2, rulesM, litR, bolR, Nat.reduceAdd, Nat.reduceLeDiff, numR, memR, valR, heapR, updR, intR, decR, extR, slR, segR, thenR, pnR, Int.reduceToNat, Int.reduceAdd, Int.reduceSub, Int.reduceLT, Int.reduceLE, Nat.reduceSub, Nat.reduceMul, Nat.reduceEqDiff]) (by simp)) (by simp) fun w7 r' q' base' c' g' L' P' va' vb' hm' hr' hc' hrb' hqb' hwr' hwq' hbw' hx7 => ?_
      have ht' : ([⟨0, i, f, 7⟩] : List LayE).take 60 = [⟨0, i, f, 7⟩] := rfl
      rw [ht'] at hm' hr'
      obtain ⟨hlenL', hallL', hsubL'⟩ := hr'.cells
      have hx7w : Ext [] w w7 := Ext.trans (S := []) (by (repeat first | assumption | exact Ext.refl | apply Ext.alloc | apply Ext.drew | (refine Ext.updN ?_ ?_; (focus first | omega | (simp only [szR] <;> omega))) | (refine Ext.updI ?_ ?_; (focus (simp; done))))) hx7 (by simp)
      simp (disch := first | assumption | omega | (simp only [szR, entC_len, entC_all, fdC_len, fdC_all] <;> omega) | rfl | decide) only [gen0, gen1, gen2, rulesM, litR, bolR, Nat.reduceAdd, Nat.reduceLeDiff, numR, memR, valR, heapR, updR, intR, decR, extR, slR, segR, thenR, pnR, Int.reduceToNat, Int.reduceAdd, Int.reduceSub, Int.reduceLT, Int.reduceLE, Nat.reduceSub, Nat.reduceMul, Nat.reduceEqDiff, hlenL', hallL', hsr]
      refine placeF_spec hi2 hj2 hk2 ?_
      simp (disch := first | assumption | omega | (simp only [szR, entC_len, entC_all, fdC_len, fdC_all] <;> omega) | rfl | decide) only [gen0, gen1, gen2, rulesM, litR, bolR, Nat.reduceAdd, Nat.reduceLeDiff, numR, memR, valR, heapR, updR, intR, decR, extR, slR, segR, thenR, pnR, Int.reduceToNat, Int.reduceAdd, Int.reduceSub, Int.reduceLT, Int.reduceLE, Nat.reduceSub, Nat.reduceMul, Nat.reduceEqDiff]
      refine walk_spec (root := 0) (va := pl i j k) (hm'.ext (S := []) (by (repeat first | assumption | exact Ext.refl | apply Ext.alloc | apply Ext.drew | (refine Ext.updN ?_ ?_; (focus first | omega | (simp only [szR] <;> omega))) | (refine Ext.updI ?_ ?_; (focus (simp; done))))) (by simp) (by simp)) (by omega) (by omega) (hpl _ _ _ hi2 hj2 hk2) fun w8 hx8 => ?_
      rw [walkA_laid, walk1 hi2 hi2 hj2 hk2]
      simp only [wkR]
      have hx8w : Ext [] w w8 := Ext.trans (S := []) (by (repeat first | assumption | exact Ext.refl | apply Ext.alloc | apply Ext.drew | (refine Ext.updN ?_ ?_; (focus first | omega | (simp only [szR] <;> omega))) | (refine Ext.updI ?_ ?_; (focus (simp; done))))) hx8 (by simp)
      simp (disch := first | assumption | omega | (simp only [szR, entC_len, entC_all, fdC_len, fdC_all] <;> omega) | rfl | decide) only [gen0, gen1, gen2, rulesM, litR, bolR, Nat.reduceAdd, Nat.reduceLeDiff, numR, memR, valR, heapR, updR, intR, decR, extR, slR, segR, thenR, pnR, Int.reduceToNat, Int.reduceAdd, Int.reduceSub, Int.reduceLT, Int.reduceLE, Nat.reduceSub, Nat.reduceMul, Nat.reduceEqDiff, joinR, hsf]
      refine one_spec fun w9 hx9 => ?_
      simp (disch := first | assumption | omega | (simp only [szR, entC_len, entC_all, fdC_len, fdC_all] <;> omega) | rfl | decide) only [gen0, gen1, gen2, rulesM, litR, bolR, Nat.reduceAdd, Nat.reduceLeDiff, numR, memR, valR, heapR, updR, intR, decR, extR, slR, segR, thenR, pnR, Int.reduceToNat, Int.reduceAdd, Int.reduceSub, Int.reduceLT, Int.reduceLE, Nat.reduceSub, Nat.reduceMul, Nat.reduceEqDiff, joinR]
      exact hK _ (Ext.trans (S := []) (by (repeat first | assumption | exact Ext.refl | apply Ext.alloc | apply Ext.drew | (refine Ext.updN ?_ ?_; (focus first | omega | (simp only [szR] <;> omega))) | (refine Ext.updI ?_ ?_; (focus (simp; done))))) hx9 (by simp))
end Go.Proofs.Ytbigiabcgplkgaa
