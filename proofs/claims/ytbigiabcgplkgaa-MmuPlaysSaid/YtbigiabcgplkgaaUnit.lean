/- A hart's unit: what it looks up, and what an address is; conditions: those of each theorem. -/
import Derived.Test.YtbigiabcgplkgaaTlb
namespace Go.Proofs.Ytbigiabcgplkgaa
open Go.Fx
set_option maxRecDepth 100000
set_option linter.unusedSimpArgs false
set_option linter.unusedVariables false
/-- a unit's cells behind its lines. -/
def uT (ro ai : Nat) (g : Bool) : List Value := [.int .u64 ro, .int .u64 ai, .bool g]
theorem un_len (S : Nat → List Ln) (ro ai : Nat) (g : Bool) : (tlbC S ++ uT ro ai g).length = 135 := by rw [List.length_append, tlb_length]; simp [uT]
theorem un_at (S : Nat → List Ln) (ro ai : Nat) (g : Bool) : (tlbC S ++ uT ro ai g)[132]? = some (.int .u64 ro) ∧ (tlbC S ++ uT ro ai g)[133]? = some (.int .u64 ai) ∧ (tlbC S ++ uT ro ai g)[134]? = some (.bool g) := by
  have h := tlb_length S
  refine ⟨?_, ?_, ?_⟩ <;> (rw [List.getElem?_append_right (by omega), h]; rfl)
theorem Number_spec {w : World} {va : Nat} (hva : va < 18446744073709551616) {K : Value → World → Prop} (hK : K (.int .u64 (va / 4096 : Nat)) w) : callsK Try.prog 69 #[.int .u64 va] w K := by
  have e : (va : Int) / 4096 = ((va / 4096 : Nat) : Int) := by omega
  apply F69_ok
  unfold F69
  simp (disch := first | assumption | omega | (simp only [szR, entC_len, entC_all, fdC_len, fdC_all, un_len] <;> omega) | rfl | decide) only [gen0, gen1, gen2, rulesM, rulesU, litR, bolR, Nat.reduceAdd, Nat.reduceLeDiff, numR, memR, valR, heapR, updR, intR, decR, extR, slR, segR, thenR, pnR, Int.reduceToNat, Int.reduceAdd, Int.reduceSub, Int.reduceLT, Int.reduceLE, Nat.reduceSub, Nat.reduceMul, Nat.reduceEqDiff, e]
  exact hK
theorem Address_spec {w : World} {n : Nat} (hn : n < 17592186044416) {K : Value → World → Prop} (hK : K (.int .u64 (n * 4096 : Nat)) w) : callsK Try.prog 91 #[.int .u64 n] w K := by
  have e : (n : Int) * 4096 = ((n * 4096 : Nat) : Int) := by omega
  apply F91_ok
  unfold F91
  simp (disch := first | assumption | omega | (simp only [szR, entC_len, entC_all, fdC_len, fdC_all, un_len] <;> omega) | rfl | decide) only [gen0, gen1, gen2, rulesM, rulesU, litR, bolR, Nat.reduceAdd, Nat.reduceLeDiff, numR, memR, valR, heapR, updR, intR, decR, extR, slR, segR, thenR, pnR, Int.reduceToNat, Int.reduceAdd, Int.reduceSub, Int.reduceLT, Int.reduceLE, Nat.reduceSub, Nat.reduceMul, Nat.reduceEqDiff, e]
  exact hK
theorem Offset_spec {w : World} {va : Nat} (hva : va < 18446744073709551616) {K : Value → World → Prop} (hK : K (.int .u64 (va % 4096 : Nat)) w) : callsK Try.prog 92 #[.int .u64 va] w K := by
  have e : (va : Int) % 4096 = ((va % 4096 : Nat) : Int) := by omega
  apply F92_ok
  unfold F92
  simp (disch := first | assumption | omega | (simp only [szR, entC_len, entC_all, fdC_len, fdC_all, un_len] <;> omega) | rfl | decide) only [gen0, gen1, gen2, rulesM, rulesU, litR, bolR, Nat.reduceAdd, Nat.reduceLeDiff, numR, memR, valR, heapR, updR, intR, decR, extR, slR, segR, thenR, pnR, Int.reduceToNat, Int.reduceAdd, Int.reduceSub, Int.reduceLT, Int.reduceLE, Nat.reduceSub, Nat.reduceMul, Nat.reduceEqDiff, e]
  exact hK
/-- what an address is. -/
def plC (a : Nat) (s : Bool) : List Value := [.int .u64 a, .bool s]
def plA (f : Nat → Bool) (n va : Nat) (k : Int) : List Value := plC (n * 4096 + va % 4096) (decide (k = 3) && !f 9)
theorem blP (a : Nat) (s : Bool) (w : World) : (Instr.build 76 [(0, .int .u64 a), (1, .bool s)].toArray).run Try.prog w = .ok (.agg (plC a s).toArray) w := RU_bl_76_0_1 a s w
theorem plC_zero : [.int .u64 0, .bool false] = plC 0 false := rfl
theorem splice_pl (a b : Nat) (s t : Bool) : splice (plC a s) 0 (plC b t) = plC b t := rfl
theorem mplace_spec {w : World} {f : Nat → Bool} {n va : Nat} {k : Int} (hn : n < 17592186044416) (hva : va < 18446744073709551616) {K : Value → World → Prop} (hK : ∀ w', Ext [] w w' → K (.agg (plA f n va k).toArray) w') : callsK Try.prog 70 #[.agg (entC f n).toArray, .int .u64 va, .int .i64 k] w K := by
  have hm := Nat.mod_lt va (show 4096 > 0 by omega)
  have e : ((n * 4096 : Nat) : Int) + ((va % 4096 : Nat) : Int) = ((n * 4096 + va % 4096 : Nat) : Int) := by omega
  have hk : ∀ w', Ext [] w w' → K (.agg [.int .u64 ((n * 4096 + va % 4096 : Nat) : Int), .bool (decide (k = 3) && !f 9)].toArray) w' := hK
  clear hK
  apply F70_ok
  unfold F70
  simp (disch := first | assumption | omega | (simp only [szR, entC_len, entC_all, fdC_len, fdC_all, un_len] <;> omega) | rfl | decide) only [gen0, gen1, gen2, rulesM, rulesU, litR, bolR, Nat.reduceAdd, Nat.reduceLeDiff, numR, memR, valR, heapR, updR, intR, decR, extR, slR, segR, thenR, pnR, Int.reduceToNat, Int.reduceAdd, Int.reduceSub, Int.reduceLT, Int.reduceLE, Nat.reduceSub, Nat.reduceMul, Nat.reduceEqDiff, entC_at, entC_sub]
  repeat' (with_reducible apply And.intro)
  all_goals
    refine Address_spec hn ?_
    simp (disch := first | assumption | omega | (simp only [szR, entC_len, entC_all, fdC_len, fdC_all, un_len] <;> omega) | rfl | decide) only [gen0, gen1, gen2, rulesM, rulesU, litR, bolR, Nat.reduceAdd, Nat.reduceLeDiff, numR, memR, valR, heapR, updR, intR, decR, extR, slR, segR, thenR, pnR, Int.reduceToNat, Int.reduceAdd, Int.reduceSub, Int.reduceLT, Int.reduceLE, Nat.reduceSub, Nat.reduceMul, Nat.reduceEqDiff, entC_at, entC_sub]
    repeat' (with_reducible apply And.intro)
  all_goals
    refine Offset_spec hva ?_
    simp (disch := first | assumption | omega | (simp only [szR, entC_len, entC_all, fdC_len, fdC_all, un_len] <;> omega) | rfl | decide) only [gen0, gen1, gen2, rulesM, rulesU, litR, bolR, Nat.reduceAdd, Nat.reduceLeDiff, numR, memR, valR, heapR, updR, intR, decR, extR, slR, segR, thenR, pnR, Int.reduceToNat, Int.reduceAdd, Int.reduceSub, Int.reduceLT, Int.reduceLE, Nat.reduceSub, Nat.reduceMul, Nat.reduceEqDiff, entC_at, entC_sub, e]
    refine Strip_spec fun w1 hx1 => ?_
    have hk1 := kept0 hx1
    have hs1 := hx1.size
    simp only [szR] at hs1
    have hx1w : Ext [] w w1 := Ext.trans (S := []) (by (repeat first | assumption | exact Ext.refl | apply Ext.alloc | apply Ext.drew | (refine Ext.updN ?_ ?_; (focus first | omega | (simp only [szR] <;> omega))) | (refine Ext.updI ?_ ?_; (focus (simp; done))))) hx1 (by simp)
    simp (disch := first | assumption | omega | (simp only [szR, entC_len, entC_all, fdC_len, fdC_all, un_len] <;> omega) | rfl | decide) only [gen0, gen1, gen2, rulesM, rulesU, litR, bolR, Nat.reduceAdd, Nat.reduceLeDiff, numR, memR, valR, heapR, updR, intR, decR, extR, slR, segR, thenR, pnR, Int.reduceToNat, Int.reduceAdd, Int.reduceSub, Int.reduceLT, Int.reduceLE, Nat.reduceSub, Nat.reduceMul, Nat.reduceEqDiff, hk1]
    exact hk _ (by (repeat first | assumption | exact Ext.refl | apply Ext.alloc | apply Ext.drew | (refine Ext.updN ?_ ?_; (focus first | omega | (simp only [szR] <;> omega))) | (refine Ext.updI ?_ ?_; (focus (simp; done)))))
end Go.Proofs.Ytbigiabcgplkgaa
