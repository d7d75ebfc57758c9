/- Capabilities: whether one may be used; another address; conditions: those of each theorem. -/
import Derived.Test.YtplfniijbeinmaaGreatAlg3
import GoSem.Extern.MathBitsCarry
namespace Go.Proofs.YtplfniijbeinmaaGreat
open Go.Fx
set_option maxRecDepth 100000
set_option linter.unusedSimpArgs false
set_option linter.unusedVariables false
theorem Add64_spec {w : World} {x y : Nat} (h : x + y < 18446744073709551616) {K : Value → World → Prop} (hK : K (.tuple #[.int .u64 ((x + y : Nat) : Int), .int .u64 0]) w) :
    kN Tryz.prog (callN (.func (.func 112) #[] #[]) #[.int .u64 (x : Nat), .int .u64 (y : Nat), .int .u64 0]) w K := by
  have e := Fx.kN_call (P := Tryz.prog) (f := 112) (first := #[]) (cap := #[]) (args := #[.int .u64 (x : Nat), .int .u64 (y : Nat), .int .u64 0]) (w := w) (K := K)
  rw [e]
  have e2 := run_callFunc_extern Tryz.func112 (by kernel_rfl) (by kernel_rfl) (by kernel_rfl) (e := (Extern.MathBitsCarry.rows[0]'(by decide)).2) (by kernel_rfl) #[.int .u64 (x : Nat), .int .u64 (y : Nat), .int .u64 0] w
  have e3 : (#[] ++ #[Value.int .u64 (x : Nat), .int .u64 (y : Nat), .int .u64 0] ++ #[] : Array Value) = #[.int .u64 (x : Nat), .int .u64 (y : Nat), .int .u64 0] := rfl
  rw [e3, e2]
  have e4 : (((Extern.MathBitsCarry.rows[0]'(by decide)).2) #[.int .u64 (x : Nat), .int .u64 (y : Nat), .int .u64 0]).run Tryz.prog w = .ok (.tuple #[.int .u64 ((x + y : Nat) : Int), .int .u64 0]) w := by
    have h1 : (x + y) % Extern.MathBitsCarry.m64 = x + y := Nat.mod_eq_of_lt h
    have h2 : (x + y) / Extern.MathBitsCarry.m64 = 0 := Nat.div_eq_of_lt h
    have h3 : (((Extern.MathBitsCarry.rows[0]'(by decide)).2) #[.int .u64 (x : Nat), .int .u64 (y : Nat), .int .u64 0]).run Tryz.prog w = .ok (Extern.MathBitsCarry.pair ((x + y + 0) % Extern.MathBitsCarry.m64) ((x + y + 0) / Extern.MathBitsCarry.m64)) w := rfl
    rw [h3, Nat.add_zero, h1, h2]
    rfl
  rw [e4]
  exact hK
theorem sAdd_spec {w : World} {x y : Nat} (h : x + y < 18446744073709551616) {K : Value → World → Prop} (hK : K (.tuple #[.int .u64 ((x + y : Nat) : Int), .bool false]) w) : callsK Tryz.prog 94 #[.int .u64 (x : Nat), .int .u64 (y : Nat)] w K := by
  apply F94_ok
  unfold F94
  refine Add64_spec h ?_
  simp (disch := first | assumption | omega | (simp only [szR, fdsC_len, fdsC_all, spC_len, spC_all, cpC_len, vwC_len, cpC_all, vwC_all, lvC_len, lvC_all] <;> omega) | rfl | decide) only [gen0, gen1, gen2, rulesC, rulesX, litR, bolR, Nat.reduceAdd, Nat.reduceLeDiff, numR, memR, valR, heapR, updR, intR, decR, extR, slR, segR, thenR, pnR, Int.reduceToNat, Int.reduceAdd, Int.reduceSub, Int.reduceLT, Int.reduceLE, Nat.reduceSub, Nat.reduceMul, Nat.reduceEqDiff]
  exact hK
/-- is a part of memory in a span? (no part wraps.) -/
theorem In_spec {w : World} {x n b t : Nat} (h : x + n < 18446744073709551616) (hb : b < 18446744073709551616) (ht : t < 18446744073709551616) {K : Value → World → Prop} (hK : K (.bool (decide (b ≤ x ∧ x + n ≤ t))) w) :
    callsK Tryz.prog 67 #[.int .u64 (x : Nat), .int .u64 (n : Nat), .int .u64 (b : Nat), .int .u64 (t : Nat)] w K := by
  apply F67_ok
  unfold F67
  simp (disch := first | assumption | omega | (simp only [szR, fdsC_len, fdsC_all, spC_len, spC_all, cpC_len, vwC_len, cpC_all, vwC_all, lvC_len, lvC_all] <;> omega) | rfl | decide) only [gen0, gen1, gen2, rulesC, rulesX, litR, bolR, Nat.reduceAdd, Nat.reduceLeDiff, numR, memR, valR, heapR, updR, intR, decR, extR, slR, segR, thenR, pnR, Int.reduceToNat, Int.reduceAdd, Int.reduceSub, Int.reduceLT, Int.reduceLE, Nat.reduceSub, Nat.reduceMul, Nat.reduceEqDiff]
  refine sAdd_spec h ?_
  obtain ⟨s, hs⟩ : ∃ s, s = x + n := ⟨_, rfl⟩
  rw [← hs] at hK ⊢
  by_cases h1 : b ≤ x
  · by_cases h2 : s ≤ t
    · rw [decide_eq_true ⟨h1, h2⟩] at hK
      simp (disch := first | assumption | omega | (simp only [szR, fdsC_len, fdsC_all, spC_len, spC_all, cpC_len, vwC_len, cpC_all, vwC_all, lvC_len, lvC_all] <;> omega) | rfl | decide) only [gen0, gen1, gen2, rulesC, rulesX, litR, bolR, Nat.reduceAdd, Nat.reduceLeDiff, numR, memR, valR, heapR, updR, intR, decR, extR, slR, segR, thenR, pnR, Int.reduceToNat, Int.reduceAdd, Int.reduceSub, Int.reduceLT, Int.reduceLE, Nat.reduceSub, Nat.reduceMul, Nat.reduceEqDiff, joinBR, Bool.not_false]
      exact hK
    · rw [decide_eq_false fun h => h2 h.2] at hK
      simp (disch := first | assumption | omega | (simp only [szR, fdsC_len, fdsC_all, spC_len, spC_all, cpC_len, vwC_len, cpC_all, vwC_all, lvC_len, lvC_all] <;> omega) | rfl | decide) only [gen0, gen1, gen2, rulesC, rulesX, litR, bolR, Nat.reduceAdd, Nat.reduceLeDiff, numR, memR, valR, heapR, updR, intR, decR, extR, slR, segR, thenR, pnR, Int.reduceToNat, Int.reduceAdd, Int.reduceSub, Int.reduceLT, Int.reduceLE, Nat.reduceSub, Nat.reduceMul, Nat.reduceEqDiff, joinBR, Bool.not_false]
      exact hK
  · rw [decide_eq_false fun h => h1 h.1] at hK
    simp (disch := first | assumption | omega | (simp only [szR, fdsC_len, fdsC_all, spC_len, spC_all, cpC_len, vwC_len, cpC_all, vwC_all, lvC_len, lvC_all] <;> omega) | rfl | decide) only [gen0, gen1, gen2, rulesC, rulesX, litR, bolR, Nat.reduceAdd, Nat.reduceLeDiff, numR, memR, valR, heapR, updR, intR, decR, extR, slR, segR, thenR, pnR, Int.reduceToNat, Int.reduceAdd, Int.reduceSub, Int.reduceLT, Int.reduceLE, Nat.reduceSub, Nat.reduceMul, Nat.reduceEqDiff, joinBR, Bool.not_false]
    exact hK
/-- what is wrong with a use. -/
def chkN (t : Bool) (m a k n : Nat) : Nat :=
  if (t && rightM m a) = false then 1 else if openM t m a = false then 2 else if pwN (needN k) (m / 4294967296 % 512) = false then 3
  else if spB (spM m a) ≤ a ∧ a + n ≤ spT (spM m a) then 0 else 4
theorem Check_spec {w : World} {t : Bool} {m a k n : Nat} (hm : m < 18446744073709551616) (ha : a < 18446744073709551616) (hk : k < 5) (hn : n ≤ 16) (han : a + n < 18446744073709551616) (hsB : spB (spM m a) < 18446744073709551616) (hsT : spT (spM m a) < 18446744073709551616) {K : Value → World → Prop}
    (hK : ∀ w', Ext [] w w' → K (.int .i64 (chkN t m a k n : Nat)) w') : callsK Tryz.prog 29 #[.agg (cpC t m a).toArray, .int .i64 (k : Nat), .int .u64 (n : Nat)] w K := by
  apply F29_ok
  unfold F29
  simp (disch := first | assumption | omega | (simp only [szR, fdsC_len, fdsC_all, spC_len, spC_all, cpC_len, vwC_len, cpC_all, vwC_all, lvC_len, lvC_all] <;> omega) | rfl | decide) only [gen0, gen1, gen2, rulesC, rulesX, litR, bolR, Nat.reduceAdd, Nat.reduceLeDiff, numR, memR, valR, heapR, updR, intR, decR, extR, slR, segR, thenR, pnR, Int.reduceToNat, Int.reduceAdd, Int.reduceSub, Int.reduceLT, Int.reduceLE, Nat.reduceSub, Nat.reduceMul, Nat.reduceEqDiff, cpC_sub]
  refine of_spec hm ha fun w1 hx1 => ?_
  have hxa : Ext [] w w1 := Ext.trans (by (repeat first | assumption | exact Ext.refl | apply Ext.alloc | apply Ext.drew | (refine Ext.updN ?_ ?_; (focus first | omega | (simp only [szR] <;> omega))) | (refine Ext.updI ?_ ?_; (focus (simp; done))))) hx1 (by simp)
  have h1 := hx1.at (b := w.heap.size) (o := .cells (cpC t m a).toArray 24 (0, 0)) (by first | with_reducible rfl | assumption | (simp (disch := first | assumption | omega | (simp only [szR, fdsC_len, fdsC_all, spC_len, spC_all, cpC_len, vwC_len, cpC_all, vwC_all, lvC_len, lvC_all] <;> omega) | rfl | decide) only [gen0, gen1, gen2, rulesC, rulesX, litR, bolR, Nat.reduceAdd, Nat.reduceLeDiff, numR, memR, valR, heapR, updR, intR, decR, extR, slR, segR, thenR, pnR, Int.reduceToNat, Int.reduceAdd, Int.reduceSub, Int.reduceLT, Int.reduceLE, Nat.reduceSub, Nat.reduceMul, Nat.reduceEqDiff] <;> rfl)) (by simp)
  have l1 := lt_of_at h1
  have q7 : (lvC t m a)[7]? = some (.bool (t && rightM m a)) := rfl
  have q5 : (lvC t m a)[5]? = some (.int .u64 (m / 4294967296 % 512 : Nat)) := rfl
  have q3 : (lvC t m a)[3]? = some (.int .u64 (spB (spM m a) : Nat)) := rfl
  have q4 : (lvC t m a)[4]? = some (.int .u64 (spT (spM m a) : Nat)) := rfl
  have c2 : (cpC t m a)[2]? = some (.int .u64 (a : Nat)) := rfl
  simp (disch := first | assumption | omega | (simp only [szR, fdsC_len, fdsC_all, spC_len, spC_all, cpC_len, vwC_len, cpC_all, vwC_all, lvC_len, lvC_all] <;> omega) | rfl | decide) only [gen0, gen1, gen2, rulesC, rulesX, litR, bolR, Nat.reduceAdd, Nat.reduceLeDiff, numR, memR, valR, heapR, updR, intR, decR, extR, slR, segR, thenR, pnR, Int.reduceToNat, Int.reduceAdd, Int.reduceSub, Int.reduceLT, Int.reduceLE, Nat.reduceSub, Nat.reduceMul, Nat.reduceEqDiff, lv_over, lv_over2, q7]
  have hxb : Ext [] w (w1.alloc (.cells (lvC t m a).toArray 121)) := by (repeat first | assumption | exact Ext.refl | apply Ext.alloc | apply Ext.drew | (refine Ext.updN ?_ ?_; (focus first | omega | (simp only [szR] <;> omega))) | (refine Ext.updI ?_ ?_; (focus (simp; done))))
  have hC : chkN t m a k n = if (t && rightM m a) = false then 1 else if openM t m a = false then 2 else if pwN (needN k) (m / 4294967296 % 512) = false then 3 else if spB (spM m a) ≤ a ∧ a + n ≤ spT (spM m a) then 0 else 4 := rfl
  rw [hC] at hK
  cases h5 : (t && rightM m a) with
  | false =>
    simp (disch := first | assumption | omega | (simp only [szR, fdsC_len, fdsC_all, spC_len, spC_all, cpC_len, vwC_len, cpC_all, vwC_all, lvC_len, lvC_all] <;> omega) | rfl | decide) only [gen0, gen1, gen2, rulesC, rulesX, litR, bolR, Nat.reduceAdd, Nat.reduceLeDiff, numR, memR, valR, heapR, updR, intR, decR, extR, slR, segR, thenR, pnR, Int.reduceToNat, Int.reduceAdd, Int.reduceSub, Int.reduceLT, Int.reduceLE, Nat.reduceSub, Nat.reduceMul, Nat.reduceEqDiff, Bool.not_false]
    rw [if_pos h5] at hK
    exact hK _ hxb
  | true =>
    rw [if_neg (by simp [h5])] at hK
    simp (disch := first | assumption | omega | (simp only [szR, fdsC_len, fdsC_all, spC_len, spC_all, cpC_len, vwC_len, cpC_all, vwC_all, lvC_len, lvC_all] <;> omega) | rfl | decide) only [gen0, gen1, gen2, rulesC, rulesX, litR, bolR, Nat.reduceAdd, Nat.reduceLeDiff, numR, memR, valR, heapR, updR, intR, decR, extR, slR, segR, thenR, pnR, Int.reduceToNat, Int.reduceAdd, Int.reduceSub, Int.reduceLT, Int.reduceLE, Nat.reduceSub, Nat.reduceMul, Nat.reduceEqDiff, Bool.not_true, lvC_sub]
    refine open_spec fun w2 hx2 => ?_
    have hx3 := hxb.trans hx2 (by simp)
    have k2 := hx2.at (b := w1.heap.size) (o := .cells (lvC t m a).toArray 121 (0, 0)) (by first | with_reducible rfl | assumption | (simp (disch := first | assumption | omega | (simp only [szR, fdsC_len, fdsC_all, spC_len, spC_all, cpC_len, vwC_len, cpC_all, vwC_all, lvC_len, lvC_all] <;> omega) | rfl | decide) only [gen0, gen1, gen2, rulesC, rulesX, litR, bolR, Nat.reduceAdd, Nat.reduceLeDiff, numR, memR, valR, heapR, updR, intR, decR, extR, slR, segR, thenR, pnR, Int.reduceToNat, Int.reduceAdd, Int.reduceSub, Int.reduceLT, Int.reduceLE, Nat.reduceSub, Nat.reduceMul, Nat.reduceEqDiff] <;> rfl)) (by simp)
    have k1 := hx2.at (b := w.heap.size) (o := .cells (cpC t m a).toArray 24 (0, 0)) (by first | with_reducible rfl | assumption | (simp (disch := first | assumption | omega | (simp only [szR, fdsC_len, fdsC_all, spC_len, spC_all, cpC_len, vwC_len, cpC_all, vwC_all, lvC_len, lvC_all] <;> omega) | rfl | decide) only [gen0, gen1, gen2, rulesC, rulesX, litR, bolR, Nat.reduceAdd, Nat.reduceLeDiff, numR, memR, valR, heapR, updR, intR, decR, extR, slR, segR, thenR, pnR, Int.reduceToNat, Int.reduceAdd, Int.reduceSub, Int.reduceLT, Int.reduceLE, Nat.reduceSub, Nat.reduceMul, Nat.reduceEqDiff, h1] <;> rfl)) (by simp)
    cases h6 : openM t m a with
    | false =>
      simp (disch := first | assumption | omega | (simp only [szR, fdsC_len, fdsC_all, spC_len, spC_all, cpC_len, vwC_len, cpC_all, vwC_all, lvC_len, lvC_all] <;> omega) | rfl | decide) only [gen0, gen1, gen2, rulesC, rulesX, litR, bolR, Nat.reduceAdd, Nat.reduceLeDiff, numR, memR, valR, heapR, updR, intR, decR, extR, slR, segR, thenR, pnR, Int.reduceToNat, Int.reduceAdd, Int.reduceSub, Int.reduceLT, Int.reduceLE, Nat.reduceSub, Nat.reduceMul, Nat.reduceEqDiff, Bool.not_false]
      rw [if_pos h6] at hK
      exact hK _ hx3
    | true =>
      rw [if_neg (by simp [h6])] at hK
      simp (disch := first | assumption | omega | (simp only [szR, fdsC_len, fdsC_all, spC_len, spC_all, cpC_len, vwC_len, cpC_all, vwC_all, lvC_len, lvC_all] <;> omega) | rfl | decide) only [gen0, gen1, gen2, rulesC, rulesX, litR, bolR, Nat.reduceAdd, Nat.reduceLeDiff, numR, memR, valR, heapR, updR, intR, decR, extR, slR, segR, thenR, pnR, Int.reduceToNat, Int.reduceAdd, Int.reduceSub, Int.reduceLT, Int.reduceLE, Nat.reduceSub, Nat.reduceMul, Nat.reduceEqDiff, Bool.not_true]
      have hnd : needN k < 512 := by
        unfold needN
        split <;> (try omega)
        split <;> (try omega)
        split <;> (try omega)
        split <;> (try omega)
        split <;> omega
      refine need_still hk ?_
      simp (disch := first | assumption | omega | (simp only [szR, fdsC_len, fdsC_all, spC_len, spC_all, cpC_len, vwC_len, cpC_all, vwC_all, lvC_len, lvC_all] <;> omega) | rfl | decide) only [gen0, gen1, gen2, rulesC, rulesX, litR, bolR, Nat.reduceAdd, Nat.reduceLeDiff, numR, memR, valR, heapR, updR, intR, decR, extR, slR, segR, thenR, pnR, Int.reduceToNat, Int.reduceAdd, Int.reduceSub, Int.reduceLT, Int.reduceLE, Nat.reduceSub, Nat.reduceMul, Nat.reduceEqDiff, k2, q5]
      refine pw_still (by omega) (by omega) ?_
      cases h7 : pwN (needN k) (m / 4294967296 % 512) with
      | false =>
        simp (disch := first | assumption | omega | (simp only [szR, fdsC_len, fdsC_all, spC_len, spC_all, cpC_len, vwC_len, cpC_all, vwC_all, lvC_len, lvC_all] <;> omega) | rfl | decide) only [gen0, gen1, gen2, rulesC, rulesX, litR, bolR, Nat.reduceAdd, Nat.reduceLeDiff, numR, memR, valR, heapR, updR, intR, decR, extR, slR, segR, thenR, pnR, Int.reduceToNat, Int.reduceAdd, Int.reduceSub, Int.reduceLT, Int.reduceLE, Nat.reduceSub, Nat.reduceMul, Nat.reduceEqDiff, Bool.not_false]
        rw [if_pos h7] at hK
        exact hK _ (by (repeat first | assumption | exact Ext.refl | apply Ext.alloc | apply Ext.drew | (refine Ext.updN ?_ ?_; (focus first | omega | (simp only [szR] <;> omega))) | (refine Ext.updI ?_ ?_; (focus (simp; done)))))
      | true =>
        rw [if_neg (by simp [h7])] at hK
        simp (disch := first | assumption | omega | (simp only [szR, fdsC_len, fdsC_all, spC_len, spC_all, cpC_len, vwC_len, cpC_all, vwC_all, lvC_len, lvC_all] <;> omega) | rfl | decide) only [gen0, gen1, gen2, rulesC, rulesX, litR, bolR, Nat.reduceAdd, Nat.reduceLeDiff, numR, memR, valR, heapR, updR, intR, decR, extR, slR, segR, thenR, pnR, Int.reduceToNat, Int.reduceAdd, Int.reduceSub, Int.reduceLT, Int.reduceLE, Nat.reduceSub, Nat.reduceMul, Nat.reduceEqDiff, Bool.not_true, k1, k2, c2, q3, q4]
        refine In_spec han hsB hsT ?_
        by_cases h8 : spB (spM m a) ≤ a ∧ a + n ≤ spT (spM m a)
        · rw [decide_eq_true h8]
          rw [if_pos h8] at hK
          simp (disch := first | assumption | omega | (simp only [szR, fdsC_len, fdsC_all, spC_len, spC_all, cpC_len, vwC_len, cpC_all, vwC_all, lvC_len, lvC_all] <;> omega) | rfl | decide) only [gen0, gen1, gen2, rulesC, rulesX, litR, bolR, Nat.reduceAdd, Nat.reduceLeDiff, numR, memR, valR, heapR, updR, intR, decR, extR, slR, segR, thenR, pnR, Int.reduceToNat, Int.reduceAdd, Int.reduceSub, Int.reduceLT, Int.reduceLE, Nat.reduceSub, Nat.reduceMul, Nat.reduceEqDiff, Bool.not_true]
          exact hK _ (by (repeat first | assumption | exact Ext.refl | apply Ext.alloc | apply Ext.drew | (refine Ext.updN ?_ ?_; (focus first | omega | (simp only [szR] <;> omega))) | (refine Ext.updI ?_ ?_; (focus (simp; done)))))
        · rw [decide_eq_false h8]
          rw [if_neg h8] at hK
          simp (disch := first | assumption | omega | (simp only [szR, fdsC_len, fdsC_all, spC_len, spC_all, cpC_len, vwC_len, cpC_all, vwC_all, lvC_len, lvC_all] <;> omega) | rfl | decide) only [gen0, gen1, gen2, rulesC, rulesX, litR, bolR, Nat.reduceAdd, Nat.reduceLeDiff, numR, memR, valR, heapR, updR, intR, decR, extR, slR, segR, thenR, pnR, Int.reduceToNat, Int.reduceAdd, Int.reduceSub, Int.reduceLT, Int.reduceLE, Nat.reduceSub, Nat.reduceMul, Nat.reduceEqDiff, Bool.not_false]
          exact hK _ (by (repeat first | assumption | exact Ext.refl | apply Ext.alloc | apply Ext.drew | (refine Ext.updN ?_ ?_; (focus first | omega | (simp only [szR] <;> omega))) | (refine Ext.updI ?_ ?_; (focus (simp; done)))))
theorem Clear_spec {w : World} {t : Bool} {m a : Nat} {K : Value → World → Prop} (hK : ∀ w', Ext [] w w' → K (.agg (cpC false m a).toArray) w') : callsK Tryz.prog 87 #[.agg (cpC t m a).toArray] w K := by
  apply F87_ok
  unfold F87
  have c1 : (cpC t m a)[1]? = some (.int .u64 (m : Nat)) := rfl
  have c2 : (cpC t m a)[2]? = some (.int .u64 (a : Nat)) := rfl
  simp (disch := first | assumption | omega | (simp only [szR, fdsC_len, fdsC_all, spC_len, spC_all, cpC_len, vwC_len, cpC_all, vwC_all, lvC_len, lvC_all] <;> omega) | rfl | decide) only [gen0, gen1, gen2, rulesC, rulesX, litR, bolR, Nat.reduceAdd, Nat.reduceLeDiff, numR, memR, valR, heapR, updR, intR, decR, extR, slR, segR, thenR, pnR, Int.reduceToNat, Int.reduceAdd, Int.reduceSub, Int.reduceLT, Int.reduceLE, Nat.reduceSub, Nat.reduceMul, Nat.reduceEqDiff, c1, c2]
  exact hK _ (by (repeat first | assumption | exact Ext.refl | apply Ext.alloc | apply Ext.drew | (refine Ext.updN ?_ ?_; (focus first | omega | (simp only [szR] <;> omega))) | (refine Ext.updI ?_ ?_; (focus (simp; done)))))
theorem Null_spec {w : World} {n : Nat} {K : Value → World → Prop} (hK : ∀ w', Ext [] w w' → K (.agg (cpC false 0 n).toArray) w') : callsK Tryz.prog 33 #[.int .u64 (n : Nat)] w K := by
  apply F33_ok
  unfold F33
  simp (disch := first | assumption | omega | (simp only [szR, fdsC_len, fdsC_all, spC_len, spC_all, cpC_len, vwC_len, cpC_all, vwC_all, lvC_len, lvC_all] <;> omega) | rfl | decide) only [gen0, gen1, gen2, rulesC, rulesX, litR, bolR, Nat.reduceAdd, Nat.reduceLeDiff, numR, memR, valR, heapR, updR, intR, decR, extR, slR, segR, thenR, pnR, Int.reduceToNat, Int.reduceAdd, Int.reduceSub, Int.reduceLT, Int.reduceLE, Nat.reduceSub, Nat.reduceMul, Nat.reduceEqDiff]
  exact hK _ (by (repeat first | assumption | exact Ext.refl | apply Ext.alloc | apply Ext.drew | (refine Ext.updN ?_ ?_; (focus first | omega | (simp only [szR] <;> omega))) | (refine Ext.updI ?_ ?_; (focus (simp; done)))))
/-- is it as it was, at another address? -/
def moveT (t : Bool) (m a b : Nat) : Bool := openM t m a && (spM m b).isSome && decide (spB (spM m b) = spB (spM m a) ∧ spT (spM m b) = spT (spM m a))
theorem Address_spec {w : World} {t : Bool} {m a b : Nat} (hm : m < 18446744073709551616) (ha : a < 18446744073709551616) (hb : b < 18446744073709551616) {K : Value → World → Prop} (hK : ∀ w', Ext [] w w' → K (.agg (cpC (moveT t m a b) m b).toArray) w') :
    callsK Tryz.prog 44 #[.agg (cpC t m a).toArray, .int .u64 (b : Nat)] w K := by
  apply F44_ok
  unfold F44
  simp (disch := first | assumption | omega | (simp only [szR, fdsC_len, fdsC_all, spC_len, spC_all, cpC_len, vwC_len, cpC_all, vwC_all, lvC_len, lvC_all] <;> omega) | rfl | decide) only [gen0, gen1, gen2, rulesC, rulesX, litR, bolR, Nat.reduceAdd, Nat.reduceLeDiff, numR, memR, valR, heapR, updR, intR, decR, extR, slR, segR, thenR, pnR, Int.reduceToNat, Int.reduceAdd, Int.reduceSub, Int.reduceLT, Int.reduceLE, Nat.reduceSub, Nat.reduceMul, Nat.reduceEqDiff, cpC_sub]
  refine of_spec hm ha fun w1 hx1 => ?_
  have hxa : Ext [] w w1 := Ext.trans (by (repeat first | assumption | exact Ext.refl | apply Ext.alloc | apply Ext.drew | (refine Ext.updN ?_ ?_; (focus first | omega | (simp only [szR] <;> omega))) | (refine Ext.updI ?_ ?_; (focus (simp; done))))) hx1 (by simp)
  have h1 := hx1.at (b := w.heap.size) (o := .cells (cpC t m a).toArray 24 (0, 0)) (by first | with_reducible rfl | assumption | (simp (disch := first | assumption | omega | (simp only [szR, fdsC_len, fdsC_all, spC_len, spC_all, cpC_len, vwC_len, cpC_all, vwC_all, lvC_len, lvC_all] <;> omega) | rfl | decide) only [gen0, gen1, gen2, rulesC, rulesX, litR, bolR, Nat.reduceAdd, Nat.reduceLeDiff, numR, memR, valR, heapR, updR, intR, decR, extR, slR, segR, thenR, pnR, Int.reduceToNat, Int.reduceAdd, Int.reduceSub, Int.reduceLT, Int.reduceLE, Nat.reduceSub, Nat.reduceMul, Nat.reduceEqDiff] <;> rfl)) (by simp)
  have h2 := hx1.at (b := w.heap.size + 1) (o := .cells [.bool false, .int .u64 0, .int .u64 0].toArray 24 (0, 0)) (by first | with_reducible rfl | assumption | (simp (disch := first | assumption | omega | (simp only [szR, fdsC_len, fdsC_all, spC_len, spC_all, cpC_len, vwC_len, cpC_all, vwC_all, lvC_len, lvC_all] <;> omega) | rfl | decide) only [gen0, gen1, gen2, rulesC, rulesX, litR, bolR, Nat.reduceAdd, Nat.reduceLeDiff, numR, memR, valR, heapR, updR, intR, decR, extR, slR, segR, thenR, pnR, Int.reduceToNat, Int.reduceAdd, Int.reduceSub, Int.reduceLT, Int.reduceLE, Nat.reduceSub, Nat.reduceMul, Nat.reduceEqDiff] <;> rfl)) (by simp)
  have l1 := lt_of_at h1
  have l2 := lt_of_at h2
  have s1 : (cpC t m a).set 2 (.int .u64 (b : Nat)) = cpC t m b := rfl
  simp (disch := first | assumption | omega | (simp only [szR, fdsC_len, fdsC_all, spC_len, spC_all, cpC_len, vwC_len, cpC_all, vwC_all, lvC_len, lvC_all] <;> omega) | rfl | decide) only [gen0, gen1, gen2, rulesC, rulesX, litR, bolR, Nat.reduceAdd, Nat.reduceLeDiff, numR, memR, valR, heapR, updR, intR, decR, extR, slR, segR, thenR, pnR, Int.reduceToNat, Int.reduceAdd, Int.reduceSub, Int.reduceLT, Int.reduceLE, Nat.reduceSub, Nat.reduceMul, Nat.reduceEqDiff, lv_over, lv_over2, h1, s1, cpC_sub]
  refine Look_spec hm hb fun w2 hx2 => ?_
  have hx3 : Ext [] w (World.upd (w1.alloc (.cells (lvC t m a).toArray 121)) w.heap.size (cpC t m b)) := by (repeat first | assumption | exact Ext.refl | apply Ext.alloc | apply Ext.drew | (refine Ext.updN ?_ ?_; (focus first | omega | (simp only [szR] <;> omega))) | (refine Ext.updI ?_ ?_; (focus (simp; done))))
  have hx4 := hx3.trans hx2 (by simp)
  have u1 : (World.upd (w1.alloc (.cells (lvC t m a).toArray 121)) w.heap.size (cpC t m b)).heap[w.heap.size]? = some (.cells (cpC t m b).toArray 24 (0, 0)) := upd_at (l0 := cpC t m a) (by first | with_reducible rfl | assumption | (simp (disch := first | assumption | omega | (simp only [szR, fdsC_len, fdsC_all, spC_len, spC_all, cpC_len, vwC_len, cpC_all, vwC_all, lvC_len, lvC_all] <;> omega) | rfl | decide) only [gen0, gen1, gen2, rulesC, rulesX, litR, bolR, Nat.reduceAdd, Nat.reduceLeDiff, numR, memR, valR, heapR, updR, intR, decR, extR, slR, segR, thenR, pnR, Int.reduceToNat, Int.reduceAdd, Int.reduceSub, Int.reduceLT, Int.reduceLE, Nat.reduceSub, Nat.reduceMul, Nat.reduceEqDiff, h1] <;> rfl))
  have u2 : (World.upd (w1.alloc (.cells (lvC t m a).toArray 121)) w.heap.size (cpC t m b)).heap[w.heap.size + 1]? = some (.cells [.bool false, .int .u64 0, .int .u64 0].toArray 24 (0, 0)) := (by first | with_reducible rfl | assumption | (simp (disch := first | assumption | omega | (simp only [szR, fdsC_len, fdsC_all, spC_len, spC_all, cpC_len, vwC_len, cpC_all, vwC_all, lvC_len, lvC_all] <;> omega) | rfl | decide) only [gen0, gen1, gen2, rulesC, rulesX, litR, bolR, Nat.reduceAdd, Nat.reduceLeDiff, numR, memR, valR, heapR, updR, intR, decR, extR, slR, segR, thenR, pnR, Int.reduceToNat, Int.reduceAdd, Int.reduceSub, Int.reduceLT, Int.reduceLE, Nat.reduceSub, Nat.reduceMul, Nat.reduceEqDiff, h2] <;> rfl))
  have u5 : (World.upd (w1.alloc (.cells (lvC t m a).toArray 121)) w.heap.size (cpC t m b)).heap[w1.heap.size]? = some (.cells (lvC t m a).toArray 121 (0, 0)) := (by first | with_reducible rfl | assumption | (simp (disch := first | assumption | omega | (simp only [szR, fdsC_len, fdsC_all, spC_len, spC_all, cpC_len, vwC_len, cpC_all, vwC_all, lvC_len, lvC_all] <;> omega) | rfl | decide) only [gen0, gen1, gen2, rulesC, rulesX, litR, bolR, Nat.reduceAdd, Nat.reduceLeDiff, numR, memR, valR, heapR, updR, intR, decR, extR, slR, segR, thenR, pnR, Int.reduceToNat, Int.reduceAdd, Int.reduceSub, Int.reduceLT, Int.reduceLE, Nat.reduceSub, Nat.reduceMul, Nat.reduceEqDiff] <;> rfl))
  have k1 := hx2.at u1 (by simp)
  have k2 := hx2.at u2 (by simp)
  have k5 := hx2.at u5 (by simp)
  have j1 := lt_of_at k1
  have j2 := lt_of_at k2
  have j5 := lt_of_at k5
  have hne : w.heap.size ≠ w1.heap.size := by omega
  simp (disch := first | assumption | omega | (simp only [szR, fdsC_len, fdsC_all, spC_len, spC_all, cpC_len, vwC_len, cpC_all, vwC_all, lvC_len, lvC_all] <;> omega) | rfl | decide) only [gen0, gen1, gen2, rulesC, rulesX, litR, bolR, Nat.reduceAdd, Nat.reduceLeDiff, numR, memR, valR, heapR, updR, intR, decR, extR, slR, segR, thenR, pnR, Int.reduceToNat, Int.reduceAdd, Int.reduceSub, Int.reduceLT, Int.reduceLE, Nat.reduceSub, Nat.reduceMul, Nat.reduceEqDiff, vw_over, vw_over2, k5, lvC_sub]
  have hx5 : Ext [] w2 (w2.alloc (.cells (vwC m b).toArray 28)) := by (repeat first | assumption | exact Ext.refl | apply Ext.alloc | apply Ext.drew | (refine Ext.updN ?_ ?_; (focus first | omega | (simp only [szR] <;> omega))) | (refine Ext.updI ?_ ?_; (focus (simp; done))))
  refine open_spec fun w3 hx6 => ?_
  have hx7 := hx5.trans hx6 (by simp)
  have hx8 := hx4.trans hx7 (by simp)
  have n1 := hx7.at k1 (by simp)
  have n2 := hx7.at k2 (by simp)
  have n5 := hx7.at k5 (by simp)
  have n6 := hx6.at (b := w2.heap.size) (o := .cells (vwC m b).toArray 28 (0, 0)) (by first | with_reducible rfl | assumption | (simp (disch := first | assumption | omega | (simp only [szR, fdsC_len, fdsC_all, spC_len, spC_all, cpC_len, vwC_len, cpC_all, vwC_all, lvC_len, lvC_all] <;> omega) | rfl | decide) only [gen0, gen1, gen2, rulesC, rulesX, litR, bolR, Nat.reduceAdd, Nat.reduceLeDiff, numR, memR, valR, heapR, updR, intR, decR, extR, slR, segR, thenR, pnR, Int.reduceToNat, Int.reduceAdd, Int.reduceSub, Int.reduceLT, Int.reduceLE, Nat.reduceSub, Nat.reduceMul, Nat.reduceEqDiff] <;> rfl)) (by simp)
  have i1 := lt_of_at n1
  have i2 := lt_of_at n2
  have i5 := lt_of_at n5
  have i6 := lt_of_at n6
  have r1 : sub (vwC m b) 0 2 = [.int .u64 (spB (spM m b) : Nat), .int .u64 (spT (spM m b) : Nat)] := rfl
  have r2 : sub (lvC t m a) 3 2 = [.int .u64 (spB (spM m a) : Nat), .int .u64 (spT (spM m a) : Nat)] := rfl
  have hM : moveT t m a b = (openM t m a && (spM m b).isSome && decide (spB (spM m b) = spB (spM m a) ∧ spT (spM m b) = spT (spM m a))) := rfl
  have s2 : ∀ x, (cpC t m b).set 0 (.bool x) = cpC x m b := fun _ => rfl
  have z1 : ∀ x, splice [.bool false, .int .u64 0, .int .u64 0] 0 (cpC x m b) = cpC x m b := fun _ => rfl
  have z2 : ∀ x, cpC x m b ++ List.drop (cpC x m b).length [.bool false, .int .u64 0, .int .u64 0] = cpC x m b := fun _ => by simp [cpC]
  have hend : ∀ x, x = moveT t m a b → Ext [] w (World.upd (World.upd w3 w.heap.size (cpC x m b)) (w.heap.size + 1) (cpC x m b)) → K (.agg (cpC x m b).toArray) (World.upd (World.upd w3 w.heap.size (cpC x m b)) (w.heap.size + 1) (cpC x m b)) := by
    intro x hx hxx
    subst hx
    exact hK _ hxx
  rw [hM] at hend
  have hfr : ∀ x, Ext [] w (World.upd (World.upd w3 w.heap.size (cpC x m b)) (w.heap.size + 1) (cpC x m b)) := fun x => by (repeat first | assumption | exact Ext.refl | apply Ext.alloc | apply Ext.drew | (refine Ext.updN ?_ ?_; (focus first | omega | (simp only [szR] <;> omega))) | (refine Ext.updI ?_ ?_; (focus (simp; done))))
  have v1 : ∀ x, (World.upd w3 w.heap.size (cpC x m b)).heap[w.heap.size]? = some (.cells (cpC x m b).toArray 24 (0, 0)) := fun x => upd_at n1
  have v2 : ∀ x, (World.upd w3 w.heap.size (cpC x m b)).heap[w.heap.size + 1]? = some (.cells [.bool false, .int .u64 0, .int .u64 0].toArray 24 (0, 0)) := fun x => (upd_ne (by omega)).trans n2
  have v3 : ∀ x, (World.upd (World.upd w3 w.heap.size (cpC x m b)) (w.heap.size + 1) (cpC x m b)).heap[w.heap.size + 1]? = some (.cells (cpC x m b).toArray 24 (0, 0)) := fun x => upd_at (v2 x)
  cases h6 : openM t m a with
  | false =>
    simp (disch := first | assumption | omega | (simp only [szR, fdsC_len, fdsC_all, spC_len, spC_all, cpC_len, vwC_len, cpC_all, vwC_all, lvC_len, lvC_all] <;> omega) | rfl | decide) only [gen0, gen1, gen2, rulesC, rulesX, litR, bolR, Nat.reduceAdd, Nat.reduceLeDiff, numR, memR, valR, heapR, updR, intR, decR, extR, slR, segR, thenR, pnR, Int.reduceToNat, Int.reduceAdd, Int.reduceSub, Int.reduceLT, Int.reduceLE, Nat.reduceSub, Nat.reduceMul, Nat.reduceEqDiff, joinBR, n1, n2, n5, n6, r1, r2, s2, z1, z2, cpC_sub, v1, v2, v3]
    exact hend false (by rw [h6]; rfl) (hfr _)
  | true =>
    cases h7 : (spM m b).isSome with
    | false =>
      simp (disch := first | assumption | omega | (simp only [szR, fdsC_len, fdsC_all, spC_len, spC_all, cpC_len, vwC_len, cpC_all, vwC_all, lvC_len, lvC_all] <;> omega) | rfl | decide) only [gen0, gen1, gen2, rulesC, rulesX, litR, bolR, Nat.reduceAdd, Nat.reduceLeDiff, numR, memR, valR, heapR, updR, intR, decR, extR, slR, segR, thenR, pnR, Int.reduceToNat, Int.reduceAdd, Int.reduceSub, Int.reduceLT, Int.reduceLE, Nat.reduceSub, Nat.reduceMul, Nat.reduceEqDiff, joinBR, n1, n2, n5, n6, r1, r2, s2, z1, z2, cpC_sub, v1, v2, v3]
      exact hend false (by rw [h6, h7]; rfl) (hfr _)
    | true =>
      by_cases h8 : spB (spM m b) = spB (spM m a)
      · by_cases h9 : spT (spM m b) = spT (spM m a)
        · simp (disch := first | assumption | omega | (simp only [szR, fdsC_len, fdsC_all, spC_len, spC_all, cpC_len, vwC_len, cpC_all, vwC_all, lvC_len, lvC_all] <;> omega) | rfl | decide) only [gen0, gen1, gen2, rulesC, rulesX, litR, bolR, Nat.reduceAdd, Nat.reduceLeDiff, numR, memR, valR, heapR, updR, intR, decR, extR, slR, segR, thenR, pnR, Int.reduceToNat, Int.reduceAdd, Int.reduceSub, Int.reduceLT, Int.reduceLE, Nat.reduceSub, Nat.reduceMul, Nat.reduceEqDiff, joinBR, n1, n2, n5, n6, r1, r2, s2, z1, z2, cpC_sub, v1, v2, v3, h8, h9, beq_self_eq_true, Bool.true_and, Bool.and_true]
          exact hend true (by rw [h6, h7, decide_eq_true ⟨h8, h9⟩]; rfl) (hfr _)
        · have e9 : (((spT (spM m b) : Nat) : Int) == ((spT (spM m a) : Nat) : Int)) = false := by rw [beq_eq_false_iff_ne]; omega
          simp (disch := first | assumption | omega | (simp only [szR, fdsC_len, fdsC_all, spC_len, spC_all, cpC_len, vwC_len, cpC_all, vwC_all, lvC_len, lvC_all] <;> omega) | rfl | decide) only [gen0, gen1, gen2, rulesC, rulesX, litR, bolR, Nat.reduceAdd, Nat.reduceLeDiff, numR, memR, valR, heapR, updR, intR, decR, extR, slR, segR, thenR, pnR, Int.reduceToNat, Int.reduceAdd, Int.reduceSub, Int.reduceLT, Int.reduceLE, Nat.reduceSub, Nat.reduceMul, Nat.reduceEqDiff, joinBR, n1, n2, n5, n6, r1, r2, s2, z1, z2, cpC_sub, v1, v2, v3, h8, e9, beq_self_eq_true, Bool.true_and, Bool.and_true, Bool.false_and]
          exact hend false (by rw [h6, h7, decide_eq_false fun h => h9 h.2]; rfl) (hfr _)
      · have e8 : (((spB (spM m b) : Nat) : Int) == ((spB (spM m a) : Nat) : Int)) = false := by rw [beq_eq_false_iff_ne]; omega
        simp (disch := first | assumption | omega | (simp only [szR, fdsC_len, fdsC_all, spC_len, spC_all, cpC_len, vwC_len, cpC_all, vwC_all, lvC_len, lvC_all] <;> omega) | rfl | decide) only [gen0, gen1, gen2, rulesC, rulesX, litR, bolR, Nat.reduceAdd, Nat.reduceLeDiff, numR, memR, valR, heapR, updR, intR, decR, extR, slR, segR, thenR, pnR, Int.reduceToNat, Int.reduceAdd, Int.reduceSub, Int.reduceLT, Int.reduceLE, Nat.reduceSub, Nat.reduceMul, Nat.reduceEqDiff, joinBR, n1, n2, n5, n6, r1, r2, s2, z1, z2, cpC_sub, v1, v2, v3, e8, Bool.false_and]
        exact hend false (by rw [h6, h7, decide_eq_false fun h => h8 h.1]; rfl) (hfr _)
theorem Move_spec {w : World} {t : Bool} {m a : Nat} {d : Int} {b : Nat} (hm : m < 18446744073709551616) (ha : a < 18446744073709551616) (hb : b < 18446744073709551616) (hd : IntKind.u64.wrap ((a : Int) + d) = (b : Int)) {K : Value → World → Prop} (hK : ∀ w', Ext [] w w' → K (.agg (cpC (moveT t m a b) m b).toArray) w') :
    callsK Tryz.prog 16 #[.agg (cpC t m a).toArray, .int .u64 d] w K := by
  apply F16_ok
  unfold F16
  have c2 : (cpC t m a)[2]? = some (.int .u64 (a : Nat)) := rfl
  simp (disch := first | assumption | omega | (simp only [szR, fdsC_len, fdsC_all, spC_len, spC_all, cpC_len, vwC_len, cpC_all, vwC_all, lvC_len, lvC_all] <;> omega) | rfl | decide) only [gen0, gen1, gen2, rulesC, rulesX, litR, bolR, Nat.reduceAdd, Nat.reduceLeDiff, numR, memR, valR, heapR, updR, intR, decR, extR, slR, segR, thenR, pnR, Int.reduceToNat, Int.reduceAdd, Int.reduceSub, Int.reduceLT, Int.reduceLE, Nat.reduceSub, Nat.reduceMul, Nat.reduceEqDiff, cpC_sub, c2, hd]
  refine Address_spec hm ha hb fun w1 hx1 => ?_
  have hxa : Ext [] w w1 := Ext.trans (by (repeat first | assumption | exact Ext.refl | apply Ext.alloc | apply Ext.drew | (refine Ext.updN ?_ ?_; (focus first | omega | (simp only [szR] <;> omega))) | (refine Ext.updI ?_ ?_; (focus (simp; done))))) hx1 (by simp)
  have h2 := hx1.at (b := w.heap.size + 1) (o := .cells [.bool false, .int .u64 0, .int .u64 0].toArray 24 (0, 0)) (by first | with_reducible rfl | assumption | (simp (disch := first | assumption | omega | (simp only [szR, fdsC_len, fdsC_all, spC_len, spC_all, cpC_len, vwC_len, cpC_all, vwC_all, lvC_len, lvC_all] <;> omega) | rfl | decide) only [gen0, gen1, gen2, rulesC, rulesX, litR, bolR, Nat.reduceAdd, Nat.reduceLeDiff, numR, memR, valR, heapR, updR, intR, decR, extR, slR, segR, thenR, pnR, Int.reduceToNat, Int.reduceAdd, Int.reduceSub, Int.reduceLT, Int.reduceLE, Nat.reduceSub, Nat.reduceMul, Nat.reduceEqDiff] <;> rfl)) (by simp)
  have l2 := lt_of_at h2
  have z1 : ∀ x, splice [.bool false, .int .u64 0, .int .u64 0] 0 (cpC x m b) = cpC x m b := fun _ => rfl
  have z2 : ∀ x, cpC x m b ++ List.drop (cpC x m b).length [.bool false, .int .u64 0, .int .u64 0] = cpC x m b := fun _ => by simp [cpC]
  simp (disch := first | assumption | omega | (simp only [szR, fdsC_len, fdsC_all, spC_len, spC_all, cpC_len, vwC_len, cpC_all, vwC_all, lvC_len, lvC_all] <;> omega) | rfl | decide) only [gen0, gen1, gen2, rulesC, rulesX, litR, bolR, Nat.reduceAdd, Nat.reduceLeDiff, numR, memR, valR, heapR, updR, intR, decR, extR, slR, segR, thenR, pnR, Int.reduceToNat, Int.reduceAdd, Int.reduceSub, Int.reduceLT, Int.reduceLE, Nat.reduceSub, Nat.reduceMul, Nat.reduceEqDiff, h2, z1, z2, cpC_sub]
  exact hK _ (by (repeat first | assumption | exact Ext.refl | apply Ext.alloc | apply Ext.drew | (refine Ext.updN ?_ ?_; (focus first | omega | (simp only [szR] <;> omega))) | (refine Ext.updI ?_ ?_; (focus (simp; done)))))
end Go.Proofs.YtplfniijbeinmaaGreat
