/- What an instruction is: branch, load, store; how wide; what it adds; conditions: those of each theorem. -/
import Derived.Test.YtplfniijbeinmaaGreatDec3
namespace Go.Proofs.YtplfniijbeinmaaGreat
open Go.Fx
set_option maxRecDepth 100000
set_option linter.unusedSimpArgs false
set_option linter.unusedVariables false
theorem branches_spec {w : World} {n : Nat} (hn : n < 1000) {K : Value → World → Prop} (hK : K (.bool (decide (5 ≤ n ∧ n ≤ 10))) w) : callsK Tryz.prog 70 #[.int .i64 (n : Nat)] w K := by
  apply F70_ok
  unfold F70
  by_cases h1 : 5 ≤ n
  · by_cases h2 : n ≤ 10
    · rw [decide_eq_true (And.intro h1 h2)] at hK
      simp (disch := first | assumption | omega | (simp only [szR, rwC_len, rwC_all, inC_len, inC_all] <;> omega) | rfl | decide) only [gen0, gen1, gen2, rulesC, rulesX, litR, bolR, Nat.reduceAdd, Nat.reduceLeDiff, numR, memR, valR, heapR, updR, intR, decR, extR, slR, segR, thenR, pnR, Int.reduceToNat, Int.reduceAdd, Int.reduceSub, Int.reduceLT, Int.reduceLE, Nat.reduceSub, Nat.reduceMul, Nat.reduceEqDiff, joinBR]
      exact hK
    · rw [decide_eq_false (fun h : 5 ≤ n ∧ n ≤ 10 => h2 h.2)] at hK
      simp (disch := first | assumption | omega | (simp only [szR, rwC_len, rwC_all, inC_len, inC_all] <;> omega) | rfl | decide) only [gen0, gen1, gen2, rulesC, rulesX, litR, bolR, Nat.reduceAdd, Nat.reduceLeDiff, numR, memR, valR, heapR, updR, intR, decR, extR, slR, segR, thenR, pnR, Int.reduceToNat, Int.reduceAdd, Int.reduceSub, Int.reduceLT, Int.reduceLE, Nat.reduceSub, Nat.reduceMul, Nat.reduceEqDiff, joinBR]
      exact hK
  · rw [decide_eq_false (fun h : 5 ≤ n ∧ n ≤ 10 => h1 h.1)] at hK
    simp (disch := first | assumption | omega | (simp only [szR, rwC_len, rwC_all, inC_len, inC_all] <;> omega) | rfl | decide) only [gen0, gen1, gen2, rulesC, rulesX, litR, bolR, Nat.reduceAdd, Nat.reduceLeDiff, numR, memR, valR, heapR, updR, intR, decR, extR, slR, segR, thenR, pnR, Int.reduceToNat, Int.reduceAdd, Int.reduceSub, Int.reduceLT, Int.reduceLE, Nat.reduceSub, Nat.reduceMul, Nat.reduceEqDiff, joinBR]
    exact hK
theorem branches_still {w : World} {n : Nat} (hn : n < 1000) {K : Value → Prop} (hK : K (.bool (decide (5 ≤ n ∧ n ≤ 10)))) : callsS Tryz.prog 70 #[.int .i64 (n : Nat)] w K := callsS.of _ (branches_spec hn ⟨rfl, rfl⟩) hK
theorem loads_spec {w : World} {n : Nat} (hn : n < 1000) {K : Value → World → Prop} (hK : K (.bool (decide (11 ≤ n ∧ n ≤ 17))) w) : callsK Tryz.prog 97 #[.int .i64 (n : Nat)] w K := by
  apply F97_ok
  unfold F97
  by_cases h1 : 11 ≤ n
  · by_cases h2 : n ≤ 17
    · rw [decide_eq_true (And.intro h1 h2)] at hK
      simp (disch := first | assumption | omega | (simp only [szR, rwC_len, rwC_all, inC_len, inC_all] <;> omega) | rfl | decide) only [gen0, gen1, gen2, rulesC, rulesX, litR, bolR, Nat.reduceAdd, Nat.reduceLeDiff, numR, memR, valR, heapR, updR, intR, decR, extR, slR, segR, thenR, pnR, Int.reduceToNat, Int.reduceAdd, Int.reduceSub, Int.reduceLT, Int.reduceLE, Nat.reduceSub, Nat.reduceMul, Nat.reduceEqDiff, joinBR]
      exact hK
    · rw [decide_eq_false (fun h : 11 ≤ n ∧ n ≤ 17 => h2 h.2)] at hK
      simp (disch := first | assumption | omega | (simp only [szR, rwC_len, rwC_all, inC_len, inC_all] <;> omega) | rfl | decide) only [gen0, gen1, gen2, rulesC, rulesX, litR, bolR, Nat.reduceAdd, Nat.reduceLeDiff, numR, memR, valR, heapR, updR, intR, decR, extR, slR, segR, thenR, pnR, Int.reduceToNat, Int.reduceAdd, Int.reduceSub, Int.reduceLT, Int.reduceLE, Nat.reduceSub, Nat.reduceMul, Nat.reduceEqDiff, joinBR]
      exact hK
  · rw [decide_eq_false (fun h : 11 ≤ n ∧ n ≤ 17 => h1 h.1)] at hK
    simp (disch := first | assumption | omega | (simp only [szR, rwC_len, rwC_all, inC_len, inC_all] <;> omega) | rfl | decide) only [gen0, gen1, gen2, rulesC, rulesX, litR, bolR, Nat.reduceAdd, Nat.reduceLeDiff, numR, memR, valR, heapR, updR, intR, decR, extR, slR, segR, thenR, pnR, Int.reduceToNat, Int.reduceAdd, Int.reduceSub, Int.reduceLT, Int.reduceLE, Nat.reduceSub, Nat.reduceMul, Nat.reduceEqDiff, joinBR]
    exact hK
theorem loads_still {w : World} {n : Nat} (hn : n < 1000) {K : Value → Prop} (hK : K (.bool (decide (11 ≤ n ∧ n ≤ 17)))) : callsS Tryz.prog 97 #[.int .i64 (n : Nat)] w K := callsS.of _ (loads_spec hn ⟨rfl, rfl⟩) hK
theorem stores_spec {w : World} {n : Nat} (hn : n < 1000) {K : Value → World → Prop} (hK : K (.bool (decide (18 ≤ n ∧ n ≤ 21))) w) : callsK Tryz.prog 98 #[.int .i64 (n : Nat)] w K := by
  apply F98_ok
  unfold F98
  by_cases h1 : 18 ≤ n
  · by_cases h2 : n ≤ 21
    · rw [decide_eq_true (And.intro h1 h2)] at hK
      simp (disch := first | assumption | omega | (simp only [szR, rwC_len, rwC_all, inC_len, inC_all] <;> omega) | rfl | decide) only [gen0, gen1, gen2, rulesC, rulesX, litR, bolR, Nat.reduceAdd, Nat.reduceLeDiff, numR, memR, valR, heapR, updR, intR, decR, extR, slR, segR, thenR, pnR, Int.reduceToNat, Int.reduceAdd, Int.reduceSub, Int.reduceLT, Int.reduceLE, Nat.reduceSub, Nat.reduceMul, Nat.reduceEqDiff, joinBR]
      exact hK
    · rw [decide_eq_false (fun h : 18 ≤ n ∧ n ≤ 21 => h2 h.2)] at hK
      simp (disch := first | assumption | omega | (simp only [szR, rwC_len, rwC_all, inC_len, inC_all] <;> omega) | rfl | decide) only [gen0, gen1, gen2, rulesC, rulesX, litR, bolR, Nat.reduceAdd, Nat.reduceLeDiff, numR, memR, valR, heapR, updR, intR, decR, extR, slR, segR, thenR, pnR, Int.reduceToNat, Int.reduceAdd, Int.reduceSub, Int.reduceLT, Int.reduceLE, Nat.reduceSub, Nat.reduceMul, Nat.reduceEqDiff, joinBR]
      exact hK
  · rw [decide_eq_false (fun h : 18 ≤ n ∧ n ≤ 21 => h1 h.1)] at hK
    simp (disch := first | assumption | omega | (simp only [szR, rwC_len, rwC_all, inC_len, inC_all] <;> omega) | rfl | decide) only [gen0, gen1, gen2, rulesC, rulesX, litR, bolR, Nat.reduceAdd, Nat.reduceLeDiff, numR, memR, valR, heapR, updR, intR, decR, extR, slR, segR, thenR, pnR, Int.reduceToNat, Int.reduceAdd, Int.reduceSub, Int.reduceLT, Int.reduceLE, Nat.reduceSub, Nat.reduceMul, Nat.reduceEqDiff, joinBR]
    exact hK
theorem stores_still {w : World} {n : Nat} (hn : n < 1000) {K : Value → Prop} (hK : K (.bool (decide (18 ≤ n ∧ n ≤ 21)))) : callsS Tryz.prog 98 #[.int .i64 (n : Nat)] w K := callsS.of _ (stores_spec hn ⟨rfl, rfl⟩) hK
theorem immediate_spec {w : World} {n : Nat} (hn : n < 1000) {K : Value → World → Prop} (hK : K (.bool (decide (22 ≤ n ∧ n ≤ 30))) w) : callsK Tryz.prog 78 #[.int .i64 (n : Nat)] w K := by
  apply F78_ok
  unfold F78
  by_cases h1 : 22 ≤ n
  · by_cases h2 : n ≤ 30
    · rw [decide_eq_true (And.intro h1 h2)] at hK
      simp (disch := first | assumption | omega | (simp only [szR, rwC_len, rwC_all, inC_len, inC_all] <;> omega) | rfl | decide) only [gen0, gen1, gen2, rulesC, rulesX, litR, bolR, Nat.reduceAdd, Nat.reduceLeDiff, numR, memR, valR, heapR, updR, intR, decR, extR, slR, segR, thenR, pnR, Int.reduceToNat, Int.reduceAdd, Int.reduceSub, Int.reduceLT, Int.reduceLE, Nat.reduceSub, Nat.reduceMul, Nat.reduceEqDiff, joinBR]
      exact hK
    · rw [decide_eq_false (fun h : 22 ≤ n ∧ n ≤ 30 => h2 h.2)] at hK
      simp (disch := first | assumption | omega | (simp only [szR, rwC_len, rwC_all, inC_len, inC_all] <;> omega) | rfl | decide) only [gen0, gen1, gen2, rulesC, rulesX, litR, bolR, Nat.reduceAdd, Nat.reduceLeDiff, numR, memR, valR, heapR, updR, intR, decR, extR, slR, segR, thenR, pnR, Int.reduceToNat, Int.reduceAdd, Int.reduceSub, Int.reduceLT, Int.reduceLE, Nat.reduceSub, Nat.reduceMul, Nat.reduceEqDiff, joinBR]
      exact hK
  · rw [decide_eq_false (fun h : 22 ≤ n ∧ n ≤ 30 => h1 h.1)] at hK
    simp (disch := first | assumption | omega | (simp only [szR, rwC_len, rwC_all, inC_len, inC_all] <;> omega) | rfl | decide) only [gen0, gen1, gen2, rulesC, rulesX, litR, bolR, Nat.reduceAdd, Nat.reduceLeDiff, numR, memR, valR, heapR, updR, intR, decR, extR, slR, segR, thenR, pnR, Int.reduceToNat, Int.reduceAdd, Int.reduceSub, Int.reduceLT, Int.reduceLE, Nat.reduceSub, Nat.reduceMul, Nat.reduceEqDiff, joinBR]
    exact hK
theorem immediate_still {w : World} {n : Nat} (hn : n < 1000) {K : Value → Prop} (hK : K (.bool (decide (22 ≤ n ∧ n ≤ 30)))) : callsS Tryz.prog 78 #[.int .i64 (n : Nat)] w K := callsS.of _ (immediate_spec hn ⟨rfl, rfl⟩) hK
theorem width16_spec {w : World} {n : Nat} (hn : n = 43 ∨ n = 44) {K : Value → World → Prop} (hK : ∀ w', Ext [] w w' → K (.int .i64 16) w') : callsK Tryz.prog 72 #[.int .i64 (n : Nat)] w K := by
  apply F72_ok
  unfold F72
  have hx0 : Ext [] w ((w.alloc (.cells [.int .i64 1, .int .i64 2, .int .i64 4, .int .i64 8].toArray 185)).alloc (.cells [.int .i64 1, .int .i64 2, .int .i64 4, .int .i64 8, .int .i64 1, .int .i64 2, .int .i64 4].toArray 186)) := by (repeat first | assumption | exact Ext.refl | apply Ext.alloc | apply Ext.drew | (refine Ext.updN ?_ ?_; (focus first | omega | (simp only [szR] <;> omega))) | (refine Ext.updI ?_ ?_; (focus (simp; done))))
  simp (disch := first | assumption | omega | (simp only [szR, rwC_len, rwC_all, inC_len, inC_all] <;> omega) | rfl | decide) only [gen0, gen1, gen2, rulesC, rulesX, litR, bolR, Nat.reduceAdd, Nat.reduceLeDiff, numR, memR, valR, heapR, updR, intR, decR, extR, slR, segR, thenR, pnR, Int.reduceToNat, Int.reduceAdd, Int.reduceSub, Int.reduceLT, Int.reduceLE, Nat.reduceSub, Nat.reduceMul, Nat.reduceEqDiff]
  refine loads_spec (by omega) ?_
  rw [decide_eq_false (by omega)]
  simp (disch := first | assumption | omega | (simp only [szR, rwC_len, rwC_all, inC_len, inC_all] <;> omega) | rfl | decide) only [gen0, gen1, gen2, rulesC, rulesX, litR, bolR, Nat.reduceAdd, Nat.reduceLeDiff, numR, memR, valR, heapR, updR, intR, decR, extR, slR, segR, thenR, pnR, Int.reduceToNat, Int.reduceAdd, Int.reduceSub, Int.reduceLT, Int.reduceLE, Nat.reduceSub, Nat.reduceMul, Nat.reduceEqDiff]
  refine stores_spec (by omega) ?_
  rw [decide_eq_false (by omega)]
  rcases hn with rfl | rfl
  · simp (disch := first | assumption | omega | (simp only [szR, rwC_len, rwC_all, inC_len, inC_all] <;> omega) | rfl | decide) only [gen0, gen1, gen2, rulesC, rulesX, litR, bolR, Nat.reduceAdd, Nat.reduceLeDiff, numR, memR, valR, heapR, updR, intR, decR, extR, slR, segR, thenR, pnR, Int.reduceToNat, Int.reduceAdd, Int.reduceSub, Int.reduceLT, Int.reduceLE, Nat.reduceSub, Nat.reduceMul, Nat.reduceEqDiff, joinBR]
    exact hK _ (by (repeat first | assumption | exact Ext.refl | apply Ext.alloc | apply Ext.drew | (refine Ext.updN ?_ ?_; (focus first | omega | (simp only [szR] <;> omega))) | (refine Ext.updI ?_ ?_; (focus (simp; done)))))
  · simp (disch := first | assumption | omega | (simp only [szR, rwC_len, rwC_all, inC_len, inC_all] <;> omega) | rfl | decide) only [gen0, gen1, gen2, rulesC, rulesX, litR, bolR, Nat.reduceAdd, Nat.reduceLeDiff, numR, memR, valR, heapR, updR, intR, decR, extR, slR, segR, thenR, pnR, Int.reduceToNat, Int.reduceAdd, Int.reduceSub, Int.reduceLT, Int.reduceLE, Nat.reduceSub, Nat.reduceMul, Nat.reduceEqDiff, joinBR]
    exact hK _ (by (repeat first | assumption | exact Ext.refl | apply Ext.alloc | apply Ext.drew | (refine Ext.updN ?_ ?_; (focus first | omega | (simp only [szR] <;> omega))) | (refine Ext.updI ?_ ?_; (focus (simp; done)))))
theorem width0_spec {w : World} {n : Nat} (hn : 22 ≤ n ∧ n < 43) {K : Value → World → Prop} (hK : ∀ w', Ext [] w w' → K (.int .i64 0) w') : callsK Tryz.prog 72 #[.int .i64 (n : Nat)] w K := by
  apply F72_ok
  unfold F72
  simp (disch := first | assumption | omega | (simp only [szR, rwC_len, rwC_all, inC_len, inC_all] <;> omega) | rfl | decide) only [gen0, gen1, gen2, rulesC, rulesX, litR, bolR, Nat.reduceAdd, Nat.reduceLeDiff, numR, memR, valR, heapR, updR, intR, decR, extR, slR, segR, thenR, pnR, Int.reduceToNat, Int.reduceAdd, Int.reduceSub, Int.reduceLT, Int.reduceLE, Nat.reduceSub, Nat.reduceMul, Nat.reduceEqDiff]
  refine loads_spec (by omega) ?_
  rw [decide_eq_false (by omega)]
  simp (disch := first | assumption | omega | (simp only [szR, rwC_len, rwC_all, inC_len, inC_all] <;> omega) | rfl | decide) only [gen0, gen1, gen2, rulesC, rulesX, litR, bolR, Nat.reduceAdd, Nat.reduceLeDiff, numR, memR, valR, heapR, updR, intR, decR, extR, slR, segR, thenR, pnR, Int.reduceToNat, Int.reduceAdd, Int.reduceSub, Int.reduceLT, Int.reduceLE, Nat.reduceSub, Nat.reduceMul, Nat.reduceEqDiff]
  refine stores_spec (by omega) ?_
  rw [decide_eq_false (by omega)]
  simp (disch := first | assumption | omega | (simp only [szR, rwC_len, rwC_all, inC_len, inC_all] <;> omega) | rfl | decide) only [gen0, gen1, gen2, rulesC, rulesX, litR, bolR, Nat.reduceAdd, Nat.reduceLeDiff, numR, memR, valR, heapR, updR, intR, decR, extR, slR, segR, thenR, pnR, Int.reduceToNat, Int.reduceAdd, Int.reduceSub, Int.reduceLT, Int.reduceLE, Nat.reduceSub, Nat.reduceMul, Nat.reduceEqDiff, joinBR]
  exact hK _ (by (repeat first | assumption | exact Ext.refl | apply Ext.alloc | apply Ext.drew | (refine Ext.updN ?_ ?_; (focus first | omega | (simp only [szR] <;> omega))) | (refine Ext.updI ?_ ?_; (focus (simp; done)))))
theorem addi_spec {w : World} {x y : Nat} (h : x + y < 18446744073709551616) {K : Value → World → Prop} (hK : K (.tuple #[.int .u64 ((x + y : Nat) : Int), .bool true]) w) : callsK Tryz.prog 79 #[.int .i64 22, .int .u64 (x : Nat), .int .u64 (y : Nat)] w K := by
  apply F79_ok
  unfold F79
  simp (disch := first | assumption | omega | (simp only [szR, rwC_len, rwC_all, inC_len, inC_all] <;> omega) | rfl | decide) only [gen0, gen1, gen2, rulesC, rulesX, litR, bolR, Nat.reduceAdd, Nat.reduceLeDiff, numR, memR, valR, heapR, updR, intR, decR, extR, slR, segR, thenR, pnR, Int.reduceToNat, Int.reduceAdd, Int.reduceSub, Int.reduceLT, Int.reduceLE, Nat.reduceSub, Nat.reduceMul, Nat.reduceEqDiff]
  refine joinL.intro fun J0 hJ0 => ?_
  simp (disch := first | assumption | omega | (simp only [szR, rwC_len, rwC_all, inC_len, inC_all] <;> omega) | rfl | decide) only [gen0, gen1, gen2, rulesC, rulesX, litR, bolR, Nat.reduceAdd, Nat.reduceLeDiff, numR, memR, valR, heapR, updR, intR, decR, extR, slR, segR, thenR, pnR, Int.reduceToNat, Int.reduceAdd, Int.reduceSub, Int.reduceLT, Int.reduceLE, Nat.reduceSub, Nat.reduceMul, Nat.reduceEqDiff]
  apply hJ0
  intro _
  refine .inl ⟨rfl, ?_⟩
  simp (disch := first | assumption | omega | (simp only [szR, rwC_len, rwC_all, inC_len, inC_all] <;> omega) | rfl | decide) only [gen0, gen1, gen2, rulesC, rulesX, litR, bolR, Nat.reduceAdd, Nat.reduceLeDiff, numR, memR, valR, heapR, updR, intR, decR, extR, slR, segR, thenR, pnR, Int.reduceToNat, Int.reduceAdd, Int.reduceSub, Int.reduceLT, Int.reduceLE, Nat.reduceSub, Nat.reduceMul, Nat.reduceEqDiff]
  exact hK
end Go.Proofs.YtplfniijbeinmaaGreat
