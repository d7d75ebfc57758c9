/- The document's answer for entries of page tables; conditions: those of each theorem. -/
import Derived.Test.YtbigiabcgplkgaaPte3
namespace Go.Proofs.Ytbigiabcgplkgaa
open Go.Fx
set_option maxRecDepth 100000
set_option linter.unusedSimpArgs false
set_option linter.unusedVariables false
theorem rbit_spec {w : World} {b : Bool} {k p : Nat} (hk : k < 64) (hp : p = 2 ^ k) {K : Value → World → Prop} (hK : K (.int .u64 (b.toNat * p : Nat)) w) : callsK Try.prog 81 #[.bool b, .int .u64 k] w K := by
  have hs := shl_bit (i := (k : Int)) ⟨by omega, by omega⟩
  rw [Int.toNat_natCast, ← hp] at hs
  apply F81_ok
  unfold F81
  cases b
  · simp (disch := first | assumption | omega | (simp only [szR, entC_len, entC_all] <;> omega) | rfl | decide) only [gen0, gen1, gen2, rulesM, litR, bolR, Nat.reduceAdd, Nat.reduceLeDiff, numR, memR, valR, heapR, updR, intR, decR, extR, slR, segR, thenR, pnR, Int.reduceToNat, Int.reduceAdd, Int.reduceSub, Int.reduceLT, Int.reduceLE, Nat.reduceSub, Nat.reduceMul, Nat.reduceEqDiff]
    simpa using hK
  · have e : (Int.toNat (k : Int)) = k := Int.toNat_natCast k
    have e2 : ((2 : Int) ^ k) = (p : Int) := by rw [hp]; simp
    have e3 : (1 * (2 : Int) ^ k) = (p : Int) := by rw [e2]; omega
    rw [show (1 : Int) * 2 ^ k = (p : Int) from e3] at hs
    simp (disch := first | assumption | omega | (simp only [szR, entC_len, entC_all] <;> omega) | rfl | decide) only [gen0, gen1, gen2, rulesM, litR, bolR, Nat.reduceAdd, Nat.reduceLeDiff, numR, memR, valR, heapR, updR, intR, decR, extR, slR, segR, thenR, pnR, Int.reduceToNat, Int.reduceAdd, Int.reduceSub, Int.reduceLT, Int.reduceLE, Nat.reduceSub, Nat.reduceMul, Nat.reduceEqDiff, e, e3, hs]
    simpa using hK
theorem rbit_still {w : World} {b : Bool} {k p : Nat} (hk : k < 64) (hp : p = 2 ^ k) {K : Value → Prop} (hK : K (.int .u64 (b.toNat * p : Nat))) : callsS Try.prog 81 #[.bool b, .int .u64 k] w K :=
  callsS.of _ (rbit_spec hk hp ⟨rfl, rfl⟩) hK
theorem RWord_spec {w : World} {f : Nat → Bool} {n : Nat} (hn : n < 18446744073709551616) {K : Value → World → Prop} (hK : ∀ w', Ext [] w w' → K (.int .u64 (wd f n : Nat)) w') : callsK Try.prog 36 #[.agg (entC f n).toArray] w K := by
  have hb : ∀ b : Bool, b.toNat ≤ 1 := Bool.toNat_le
  have g0 := hb (f 0)
  have g1 := hb (f 1)
  have g2 := hb (f 2)
  have g3 := hb (f 3)
  have g4 := hb (f 4)
  have g5 := hb (f 5)
  have g6 := hb (f 6)
  have g7 := hb (f 7)
  have g8 := hb (f 8)
  have g9 := hb (f 9)
  have g10 := hb (f 10)
  have g11 := hb (f 11)
  have hsum := wd_sum f n
  have hmod := Nat.mod_lt n (show 17592186044416 > 0 by omega)
  have hk : ∀ (z : Int) w', z = ((wd f n : Nat) : Int) → Ext [] w w' → K (.int .u64 z) w' := by rintro _ w' rfl h; exact hK _ h
  clear hK hb
  apply F36_ok
  unfold F36
  have hm : (n : Int) % 17592186044416 = ((n % 17592186044416 : Nat) : Int) := by omega
  have hsh : ((n % 17592186044416 : Nat) : Int) * 2 ^ 10 = ((n % 17592186044416 * 1024 : Nat) : Int) := by omega
  generalize n % 17592186044416 = q at hsum hmod hm hsh
  generalize wd f n = z at hsum hk
  simp (disch := first | assumption | omega | (simp only [szR, entC_len, entC_all] <;> omega) | rfl | decide) only [gen0, gen1, gen2, rulesM, litR, bolR, Nat.reduceAdd, Nat.reduceLeDiff, numR, memR, valR, heapR, updR, intR, decR, extR, slR, segR, thenR, pnR, Int.reduceToNat, Int.reduceAdd, Int.reduceSub, Int.reduceLT, Int.reduceLE, Nat.reduceSub, Nat.reduceMul, Nat.reduceEqDiff, entC_at]
  refine rbit_still (k := 0) (p := 1) (by omega) (by decide) ?_
  simp (disch := first | assumption | omega | (simp only [szR, entC_len, entC_all] <;> omega) | rfl | decide) only [gen0, gen1, gen2, rulesM, litR, bolR, Nat.reduceAdd, Nat.reduceLeDiff, numR, memR, valR, heapR, updR, intR, decR, extR, slR, segR, thenR, pnR, Int.reduceToNat, Int.reduceAdd, Int.reduceSub, Int.reduceLT, Int.reduceLE, Nat.reduceSub, Nat.reduceMul, Nat.reduceEqDiff, entC_at]
  refine rbit_still (k := 1) (p := 2) (by omega) (by decide) ?_
  simp (disch := first | assumption | omega | (simp only [szR, entC_len, entC_all] <;> omega) | rfl | decide) only [gen0, gen1, gen2, rulesM, litR, bolR, Nat.reduceAdd, Nat.reduceLeDiff, numR, memR, valR, heapR, updR, intR, decR, extR, slR, segR, thenR, pnR, Int.reduceToNat, Int.reduceAdd, Int.reduceSub, Int.reduceLT, Int.reduceLE, Nat.reduceSub, Nat.reduceMul, Nat.reduceEqDiff, entC_at]
  refine rbit_still (k := 2) (p := 4) (by omega) (by decide) ?_
  simp (disch := first | assumption | omega | (simp only [szR, entC_len, entC_all] <;> omega) | rfl | decide) only [gen0, gen1, gen2, rulesM, litR, bolR, Nat.reduceAdd, Nat.reduceLeDiff, numR, memR, valR, heapR, updR, intR, decR, extR, slR, segR, thenR, pnR, Int.reduceToNat, Int.reduceAdd, Int.reduceSub, Int.reduceLT, Int.reduceLE, Nat.reduceSub, Nat.reduceMul, Nat.reduceEqDiff, entC_at]
  refine rbit_still (k := 3) (p := 8) (by omega) (by decide) ?_
  simp (disch := first | assumption | omega | (simp only [szR, entC_len, entC_all] <;> omega) | rfl | decide) only [gen0, gen1, gen2, rulesM, litR, bolR, Nat.reduceAdd, Nat.reduceLeDiff, numR, memR, valR, heapR, updR, intR, decR, extR, slR, segR, thenR, pnR, Int.reduceToNat, Int.reduceAdd, Int.reduceSub, Int.reduceLT, Int.reduceLE, Nat.reduceSub, Nat.reduceMul, Nat.reduceEqDiff, entC_at]
  refine rbit_still (k := 4) (p := 16) (by omega) (by decide) ?_
  simp (disch := first | assumption | omega | (simp only [szR, entC_len, entC_all] <;> omega) | rfl | decide) only [gen0, gen1, gen2, rulesM, litR, bolR, Nat.reduceAdd, Nat.reduceLeDiff, numR, memR, valR, heapR, updR, intR, decR, extR, slR, segR, thenR, pnR, Int.reduceToNat, Int.reduceAdd, Int.reduceSub, Int.reduceLT, Int.reduceLE, Nat.reduceSub, Nat.reduceMul, Nat.reduceEqDiff, entC_at]
  refine rbit_still (k := 5) (p := 32) (by omega) (by decide) ?_
  simp (disch := first | assumption | omega | (simp only [szR, entC_len, entC_all] <;> omega) | rfl | decide) only [gen0, gen1, gen2, rulesM, litR, bolR, Nat.reduceAdd, Nat.reduceLeDiff, numR, memR, valR, heapR, updR, intR, decR, extR, slR, segR, thenR, pnR, Int.reduceToNat, Int.reduceAdd, Int.reduceSub, Int.reduceLT, Int.reduceLE, Nat.reduceSub, Nat.reduceMul, Nat.reduceEqDiff, entC_at]
  refine rbit_still (k := 6) (p := 64) (by omega) (by decide) ?_
  simp (disch := first | assumption | omega | (simp only [szR, entC_len, entC_all] <;> omega) | rfl | decide) only [gen0, gen1, gen2, rulesM, litR, bolR, Nat.reduceAdd, Nat.reduceLeDiff, numR, memR, valR, heapR, updR, intR, decR, extR, slR, segR, thenR, pnR, Int.reduceToNat, Int.reduceAdd, Int.reduceSub, Int.reduceLT, Int.reduceLE, Nat.reduceSub, Nat.reduceMul, Nat.reduceEqDiff, entC_at]
  refine rbit_still (k := 7) (p := 128) (by omega) (by decide) ?_
  simp (disch := first | assumption | omega | (simp only [szR, entC_len, entC_all] <;> omega) | rfl | decide) only [gen0, gen1, gen2, rulesM, litR, bolR, Nat.reduceAdd, Nat.reduceLeDiff, numR, memR, valR, heapR, updR, intR, decR, extR, slR, segR, thenR, pnR, Int.reduceToNat, Int.reduceAdd, Int.reduceSub, Int.reduceLT, Int.reduceLE, Nat.reduceSub, Nat.reduceMul, Nat.reduceEqDiff, entC_at]
  refine rbit_still (k := 58) (p := 288230376151711744) (by omega) (by decide) ?_
  simp (disch := first | assumption | omega | (simp only [szR, entC_len, entC_all] <;> omega) | rfl | decide) only [gen0, gen1, gen2, rulesM, litR, bolR, Nat.reduceAdd, Nat.reduceLeDiff, numR, memR, valR, heapR, updR, intR, decR, extR, slR, segR, thenR, pnR, Int.reduceToNat, Int.reduceAdd, Int.reduceSub, Int.reduceLT, Int.reduceLE, Nat.reduceSub, Nat.reduceMul, Nat.reduceEqDiff, entC_at]
  refine rbit_still (k := 59) (p := 576460752303423488) (by omega) (by decide) ?_
  simp (disch := first | assumption | omega | (simp only [szR, entC_len, entC_all] <;> omega) | rfl | decide) only [gen0, gen1, gen2, rulesM, litR, bolR, Nat.reduceAdd, Nat.reduceLeDiff, numR, memR, valR, heapR, updR, intR, decR, extR, slR, segR, thenR, pnR, Int.reduceToNat, Int.reduceAdd, Int.reduceSub, Int.reduceLT, Int.reduceLE, Nat.reduceSub, Nat.reduceMul, Nat.reduceEqDiff, entC_at]
  refine rbit_still (k := 60) (p := 1152921504606846976) (by omega) (by decide) ?_
  simp (disch := first | assumption | omega | (simp only [szR, entC_len, entC_all] <;> omega) | rfl | decide) only [gen0, gen1, gen2, rulesM, litR, bolR, Nat.reduceAdd, Nat.reduceLeDiff, numR, memR, valR, heapR, updR, intR, decR, extR, slR, segR, thenR, pnR, Int.reduceToNat, Int.reduceAdd, Int.reduceSub, Int.reduceLT, Int.reduceLE, Nat.reduceSub, Nat.reduceMul, Nat.reduceEqDiff, entC_at]
  refine rbit_still (k := 61) (p := 2305843009213693952) (by omega) (by decide) ?_
  simp (disch := first | assumption | omega | (simp only [szR, entC_len, entC_all] <;> omega) | rfl | decide) only [gen0, gen1, gen2, rulesM, litR, bolR, Nat.reduceAdd, Nat.reduceLeDiff, numR, memR, valR, heapR, updR, intR, decR, extR, slR, segR, thenR, pnR, Int.reduceToNat, Int.reduceAdd, Int.reduceSub, Int.reduceLT, Int.reduceLE, Nat.reduceSub, Nat.reduceMul, Nat.reduceEqDiff, entC_at, hm, hsh]
  refine hk _ _ ?_ (by (repeat first | assumption | exact Ext.refl | apply Ext.alloc | apply Ext.drew | (refine Ext.updN ?_ ?_; (focus first | omega | (simp only [szR] <;> omega))) | (refine Ext.updI ?_ ?_; (focus (simp; done)))))
  omega
theorem rhas_spec {w : World} {x j : Nat} {k : Int} (hx : x < 18446744073709551616) (hk : k = (pos j : Nat)) (hj : j < 12) {K : Value → World → Prop} (hK : K (.bool (fl x j)) w) : callsK Try.prog 88 #[.int .u64 x, .int .u64 k] w K := by
  have hps := pos_lt hj
  have hfd := fdiv_pow (v := x) (by omega) (pos j)
  rw [Int.toNat_natCast] at hfd
  have hfl : decide (((x / 2 ^ pos j : Nat) : Int) % 2 = 1) = fl x j := by
    unfold fl
    rw [Bool.eq_iff_iff]
    simp only [decide_eq_true_eq]
    omega
  subst hk
  generalize x / 2 ^ pos j = q at hfd hfl
  apply F88_ok
  unfold F88
  simp (disch := first | assumption | omega | (simp only [szR, entC_len, entC_all] <;> omega) | rfl | decide) only [gen0, gen1, gen2, rulesM, litR, bolR, Nat.reduceAdd, Nat.reduceLeDiff, numR, memR, valR, heapR, updR, intR, decR, extR, slR, segR, thenR, pnR, Int.reduceToNat, Int.reduceAdd, Int.reduceSub, Int.reduceLT, Int.reduceLE, Nat.reduceSub, Nat.reduceMul, Nat.reduceEqDiff, hfd, hfl, Int.toNat_natCast]
  exact hK
theorem ROf_spec {w : World} {x : Nat} (hx : x < 18446744073709551616) {K : Value → World → Prop} (hK : ∀ w', Ext [] w w' → K (.agg (entC (fl x) (fr x)).toArray) w') : callsK Try.prog 52 #[.int .u64 x] w K := by
  have hfd := fdiv_pow (v := x) (by omega) 10
  rw [Int.toNat_natCast] at hfd
  have hm : ((x / 2 ^ 10 : Nat) : Int) % 17592186044416 = ((fr x : Nat) : Int) := by
    unfold fr
    omega
  have hq : x / 2 ^ 10 < 18446744073709551616 := Nat.lt_of_le_of_lt (Nat.div_le_self _ _) hx
  generalize x / 2 ^ 10 = q at hfd hm hq
  apply F52_ok
  unfold F52
  simp (disch := first | assumption | omega | (simp only [szR, entC_len, entC_all] <;> omega) | rfl | decide) only [gen0, gen1, gen2, rulesM, litR, bolR, Nat.reduceAdd, Nat.reduceLeDiff, numR, memR, valR, heapR, updR, intR, decR, extR, slR, segR, thenR, pnR, Int.reduceToNat, Int.reduceAdd, Int.reduceSub, Int.reduceLT, Int.reduceLE, Nat.reduceSub, Nat.reduceMul, Nat.reduceEqDiff]
  refine rhas_spec (j := 0) hx (by decide) (by omega) ?_
  simp (disch := first | assumption | omega | (simp only [szR, entC_len, entC_all] <;> omega) | rfl | decide) only [gen0, gen1, gen2, rulesM, litR, bolR, Nat.reduceAdd, Nat.reduceLeDiff, numR, memR, valR, heapR, updR, intR, decR, extR, slR, segR, thenR, pnR, Int.reduceToNat, Int.reduceAdd, Int.reduceSub, Int.reduceLT, Int.reduceLE, Nat.reduceSub, Nat.reduceMul, Nat.reduceEqDiff]
  refine rhas_spec (j := 1) hx (by decide) (by omega) ?_
  simp (disch := first | assumption | omega | (simp only [szR, entC_len, entC_all] <;> omega) | rfl | decide) only [gen0, gen1, gen2, rulesM, litR, bolR, Nat.reduceAdd, Nat.reduceLeDiff, numR, memR, valR, heapR, updR, intR, decR, extR, slR, segR, thenR, pnR, Int.reduceToNat, Int.reduceAdd, Int.reduceSub, Int.reduceLT, Int.reduceLE, Nat.reduceSub, Nat.reduceMul, Nat.reduceEqDiff]
  refine rhas_spec (j := 2) hx (by decide) (by omega) ?_
  simp (disch := first | assumption | omega | (simp only [szR, entC_len, entC_all] <;> omega) | rfl | decide) only [gen0, gen1, gen2, rulesM, litR, bolR, Nat.reduceAdd, Nat.reduceLeDiff, numR, memR, valR, heapR, updR, intR, decR, extR, slR, segR, thenR, pnR, Int.reduceToNat, Int.reduceAdd, Int.reduceSub, Int.reduceLT, Int.reduceLE, Nat.reduceSub, Nat.reduceMul, Nat.reduceEqDiff]
  refine rhas_spec (j := 3) hx (by decide) (by omega) ?_
  simp (disch := first | assumption | omega | (simp only [szR, entC_len, entC_all] <;> omega) | rfl | decide) only [gen0, gen1, gen2, rulesM, litR, bolR, Nat.reduceAdd, Nat.reduceLeDiff, numR, memR, valR, heapR, updR, intR, decR, extR, slR, segR, thenR, pnR, Int.reduceToNat, Int.reduceAdd, Int.reduceSub, Int.reduceLT, Int.reduceLE, Nat.reduceSub, Nat.reduceMul, Nat.reduceEqDiff]
  refine rhas_spec (j := 4) hx (by decide) (by omega) ?_
  simp (disch := first | assumption | omega | (simp only [szR, entC_len, entC_all] <;> omega) | rfl | decide) only [gen0, gen1, gen2, rulesM, litR, bolR, Nat.reduceAdd, Nat.reduceLeDiff, numR, memR, valR, heapR, updR, intR, decR, extR, slR, segR, thenR, pnR, Int.reduceToNat, Int.reduceAdd, Int.reduceSub, Int.reduceLT, Int.reduceLE, Nat.reduceSub, Nat.reduceMul, Nat.reduceEqDiff]
  refine rhas_spec (j := 5) hx (by decide) (by omega) ?_
  simp (disch := first | assumption | omega | (simp only [szR, entC_len, entC_all] <;> omega) | rfl | decide) only [gen0, gen1, gen2, rulesM, litR, bolR, Nat.reduceAdd, Nat.reduceLeDiff, numR, memR, valR, heapR, updR, intR, decR, extR, slR, segR, thenR, pnR, Int.reduceToNat, Int.reduceAdd, Int.reduceSub, Int.reduceLT, Int.reduceLE, Nat.reduceSub, Nat.reduceMul, Nat.reduceEqDiff]
  refine rhas_spec (j := 6) hx (by decide) (by omega) ?_
  simp (disch := first | assumption | omega | (simp only [szR, entC_len, entC_all] <;> omega) | rfl | decide) only [gen0, gen1, gen2, rulesM, litR, bolR, Nat.reduceAdd, Nat.reduceLeDiff, numR, memR, valR, heapR, updR, intR, decR, extR, slR, segR, thenR, pnR, Int.reduceToNat, Int.reduceAdd, Int.reduceSub, Int.reduceLT, Int.reduceLE, Nat.reduceSub, Nat.reduceMul, Nat.reduceEqDiff]
  refine rhas_spec (j := 7) hx (by decide) (by omega) ?_
  simp (disch := first | assumption | omega | (simp only [szR, entC_len, entC_all] <;> omega) | rfl | decide) only [gen0, gen1, gen2, rulesM, litR, bolR, Nat.reduceAdd, Nat.reduceLeDiff, numR, memR, valR, heapR, updR, intR, decR, extR, slR, segR, thenR, pnR, Int.reduceToNat, Int.reduceAdd, Int.reduceSub, Int.reduceLT, Int.reduceLE, Nat.reduceSub, Nat.reduceMul, Nat.reduceEqDiff]
  refine rhas_spec (j := 8) hx (by decide) (by omega) ?_
  simp (disch := first | assumption | omega | (simp only [szR, entC_len, entC_all] <;> omega) | rfl | decide) only [gen0, gen1, gen2, rulesM, litR, bolR, Nat.reduceAdd, Nat.reduceLeDiff, numR, memR, valR, heapR, updR, intR, decR, extR, slR, segR, thenR, pnR, Int.reduceToNat, Int.reduceAdd, Int.reduceSub, Int.reduceLT, Int.reduceLE, Nat.reduceSub, Nat.reduceMul, Nat.reduceEqDiff]
  refine rhas_spec (j := 9) hx (by decide) (by omega) ?_
  simp (disch := first | assumption | omega | (simp only [szR, entC_len, entC_all] <;> omega) | rfl | decide) only [gen0, gen1, gen2, rulesM, litR, bolR, Nat.reduceAdd, Nat.reduceLeDiff, numR, memR, valR, heapR, updR, intR, decR, extR, slR, segR, thenR, pnR, Int.reduceToNat, Int.reduceAdd, Int.reduceSub, Int.reduceLT, Int.reduceLE, Nat.reduceSub, Nat.reduceMul, Nat.reduceEqDiff]
  refine rhas_spec (j := 10) hx (by decide) (by omega) ?_
  simp (disch := first | assumption | omega | (simp only [szR, entC_len, entC_all] <;> omega) | rfl | decide) only [gen0, gen1, gen2, rulesM, litR, bolR, Nat.reduceAdd, Nat.reduceLeDiff, numR, memR, valR, heapR, updR, intR, decR, extR, slR, segR, thenR, pnR, Int.reduceToNat, Int.reduceAdd, Int.reduceSub, Int.reduceLT, Int.reduceLE, Nat.reduceSub, Nat.reduceMul, Nat.reduceEqDiff]
  refine rhas_spec (j := 11) hx (by decide) (by omega) ?_
  simp (disch := first | assumption | omega | (simp only [szR, entC_len, entC_all] <;> omega) | rfl | decide) only [gen0, gen1, gen2, rulesM, litR, bolR, Nat.reduceAdd, Nat.reduceLeDiff, numR, memR, valR, heapR, updR, intR, decR, extR, slR, segR, thenR, pnR, Int.reduceToNat, Int.reduceAdd, Int.reduceSub, Int.reduceLT, Int.reduceLE, Nat.reduceSub, Nat.reduceMul, Nat.reduceEqDiff, hfd, hm]
  exact hK _ (by (repeat first | assumption | exact Ext.refl | apply Ext.alloc | apply Ext.drew | (refine Ext.updN ?_ ?_; (focus first | omega | (simp only [szR] <;> omega))) | (refine Ext.updI ?_ ?_; (focus (simp; done)))))
theorem RLeaf_spec {w : World} {f : Nat → Bool} {n : Nat} {K : Value → World → Prop} (hK : ∀ w', Ext [] w w' → K (.bool (leaf f)) w') : callsK Try.prog 54 #[.agg (entC f n).toArray] w K := by
  apply F54_ok
  unfold F54
  have hk : ∀ b, b = leaf f → K (.bool b) (w.alloc (.cells (entC f n).toArray 37)) := by rintro _ rfl; exact hK _ (by (repeat first | assumption | exact Ext.refl | apply Ext.alloc | apply Ext.drew | (refine Ext.updN ?_ ?_; (focus first | omega | (simp only [szR] <;> omega))) | (refine Ext.updI ?_ ?_; (focus (simp; done)))))
  clear hK
  cases h0 : f 0
  · simp (disch := first | assumption | omega | (simp only [szR, entC_len, entC_all] <;> omega) | rfl | decide) only [gen0, gen1, gen2, rulesM, litR, bolR, Nat.reduceAdd, Nat.reduceLeDiff, numR, memR, valR, heapR, updR, intR, decR, extR, slR, segR, thenR, pnR, Int.reduceToNat, Int.reduceAdd, Int.reduceSub, Int.reduceLT, Int.reduceLE, Nat.reduceSub, Nat.reduceMul, Nat.reduceEqDiff, joinBR, entC_at, h0]
    exact hk _ (by simp [leaf, h0])
  cases h1 : f 1
  · cases h2 : f 2
    · simp (disch := first | assumption | omega | (simp only [szR, entC_len, entC_all] <;> omega) | rfl | decide) only [gen0, gen1, gen2, rulesM, litR, bolR, Nat.reduceAdd, Nat.reduceLeDiff, numR, memR, valR, heapR, updR, intR, decR, extR, slR, segR, thenR, pnR, Int.reduceToNat, Int.reduceAdd, Int.reduceSub, Int.reduceLT, Int.reduceLE, Nat.reduceSub, Nat.reduceMul, Nat.reduceEqDiff, joinBR, entC_at, h0, h1, h2]
      exact hk _ (by simp [leaf, h0, h1, h2])
    · simp (disch := first | assumption | omega | (simp only [szR, entC_len, entC_all] <;> omega) | rfl | decide) only [gen0, gen1, gen2, rulesM, litR, bolR, Nat.reduceAdd, Nat.reduceLeDiff, numR, memR, valR, heapR, updR, intR, decR, extR, slR, segR, thenR, pnR, Int.reduceToNat, Int.reduceAdd, Int.reduceSub, Int.reduceLT, Int.reduceLE, Nat.reduceSub, Nat.reduceMul, Nat.reduceEqDiff, joinBR, entC_at, h0, h1, h2]
      exact hk _ (by simp [leaf, h0, h1, h2])
  · simp (disch := first | assumption | omega | (simp only [szR, entC_len, entC_all] <;> omega) | rfl | decide) only [gen0, gen1, gen2, rulesM, litR, bolR, Nat.reduceAdd, Nat.reduceLeDiff, numR, memR, valR, heapR, updR, intR, decR, extR, slR, segR, thenR, pnR, Int.reduceToNat, Int.reduceAdd, Int.reduceSub, Int.reduceLT, Int.reduceLE, Nat.reduceSub, Nat.reduceMul, Nat.reduceEqDiff, joinBR, entC_at, h0, h1]
    exact hk _ (by simp [leaf, h0, h1])
set_option maxHeartbeats 2000000 in
theorem RRight_spec {w : World} {f : Nat → Bool} {n : Nat} (hn : n < 18446744073709551616) {K : Value → World → Prop} (hK : ∀ w', Ext [] w w' → K (.bool (right f n)) w') : callsK Try.prog 53 #[.agg (entC f n).toArray] w K := by
  apply F53_ok
  unfold F53
  have hk : ∀ b w', b = right f n → Ext [] w w' → K (.bool b) w' := by rintro _ w' rfl h; exact hK _ h
  clear hK
  cases h0 : f 0
  · simp (disch := first | assumption | omega | (simp only [szR, entC_len, entC_all] <;> omega) | rfl | decide) only [gen0, gen1, gen2, rulesM, litR, bolR, Nat.reduceAdd, Nat.reduceLeDiff, numR, memR, valR, heapR, updR, intR, decR, extR, slR, segR, thenR, pnR, Int.reduceToNat, Int.reduceAdd, Int.reduceSub, Int.reduceLT, Int.reduceLE, Nat.reduceSub, Nat.reduceMul, Nat.reduceEqDiff, joinBR, entC_at, h0]
    exact hk _ _ (by simp [right, h0]) (by (repeat first | assumption | exact Ext.refl | apply Ext.alloc | apply Ext.drew | (refine Ext.updN ?_ ?_; (focus first | omega | (simp only [szR] <;> omega))) | (refine Ext.updI ?_ ?_; (focus (simp; done)))))
  have hF : (f 2 = true → f 1 = true) → (f 8 = true → f 2 = true) → (f 9 = true → f 1 = true) → n < 17592186044416 → right f n = (leaf f || (!f 4 && !f 6 && !f 7 && !f 8 && !f 9 && !f 10 && !f 11)) := by
    intro g1 g2 g3 hn2
    unfold right
    rw [h0, decide_eq_true hn2]
    cases h2 : f 2 <;> cases h1 : f 1 <;> cases h8 : f 8 <;> cases h9 : f 9 <;> simp_all
  have hx0 : Ext [] w (w.alloc (.cells (entC f n).toArray 37)) := by (repeat first | assumption | exact Ext.refl | apply Ext.alloc | apply Ext.drew | (refine Ext.updN ?_ ?_; (focus first | omega | (simp only [szR] <;> omega))) | (refine Ext.updI ?_ ?_; (focus (simp; done))))
  cases h2 : f 2 <;> cases h1 : f 1 <;> cases h8 : f 8 <;> cases h9 : f 9
  all_goals by_cases hn2 : n < 17592186044416
  all_goals simp (disch := first | assumption | omega | (simp only [szR, entC_len, entC_all] <;> omega) | rfl | decide) only [gen0, gen1, gen2, rulesM, litR, bolR, Nat.reduceAdd, Nat.reduceLeDiff, numR, memR, valR, heapR, updR, intR, decR, extR, slR, segR, thenR, pnR, Int.reduceToNat, Int.reduceAdd, Int.reduceSub, Int.reduceLT, Int.reduceLE, Nat.reduceSub, Nat.reduceMul, Nat.reduceEqDiff, joinBR, entC_at, entC_sub, h0, h1, h2, h8, h9]
  all_goals first
    | (refine hk _ _ ?_ hx0; first | (simp [right, h0, h1, h2, h8, h9]; done) | (simp [right, h0, h1, h2, h8, h9]; omega))
    | skip
  all_goals
    have hF2 := hF (by simp [h2, h1]) (by simp [h8, h2]) (by simp [h9, h1]) hn2
    clear hF
    refine RLeaf_spec fun w2 hx2 => ?_
    have hk2 := kept0 hx2
    have hx3 := hx0.trans hx2 (by simp)
    cases hl : leaf f
    · cases h4 : f 4
      · cases h6 : f 6
        · cases h7 : f 7
          · cases h10 : f 10
            · simp (disch := first | assumption | omega | (simp only [szR, entC_len, entC_all] <;> omega) | rfl | decide) only [gen0, gen1, gen2, rulesM, litR, bolR, Nat.reduceAdd, Nat.reduceLeDiff, numR, memR, valR, heapR, updR, intR, decR, extR, slR, segR, thenR, pnR, Int.reduceToNat, Int.reduceAdd, Int.reduceSub, Int.reduceLT, Int.reduceLE, Nat.reduceSub, Nat.reduceMul, Nat.reduceEqDiff, joinBR, hk2, entC_at, h0, h1, h2, h8, h9, h4, h6, h7, h10]
              exact hk _ _ (by rw [hF2]; simp [hl, h4, h6, h7, h8, h9, h10]) hx3
            · simp (disch := first | assumption | omega | (simp only [szR, entC_len, entC_all] <;> omega) | rfl | decide) only [gen0, gen1, gen2, rulesM, litR, bolR, Nat.reduceAdd, Nat.reduceLeDiff, numR, memR, valR, heapR, updR, intR, decR, extR, slR, segR, thenR, pnR, Int.reduceToNat, Int.reduceAdd, Int.reduceSub, Int.reduceLT, Int.reduceLE, Nat.reduceSub, Nat.reduceMul, Nat.reduceEqDiff, joinBR, hk2, entC_at, h0, h1, h2, h8, h9, h4, h6, h7, h10]
              exact hk _ _ (by rw [hF2]; simp [hl, h4, h6, h7, h8, h9, h10]) hx3
          · simp (disch := first | assumption | omega | (simp only [szR, entC_len, entC_all] <;> omega) | rfl | decide) only [gen0, gen1, gen2, rulesM, litR, bolR, Nat.reduceAdd, Nat.reduceLeDiff, numR, memR, valR, heapR, updR, intR, decR, extR, slR, segR, thenR, pnR, Int.reduceToNat, Int.reduceAdd, Int.reduceSub, Int.reduceLT, Int.reduceLE, Nat.reduceSub, Nat.reduceMul, Nat.reduceEqDiff, joinBR, hk2, entC_at, h0, h1, h2, h8, h9, h4, h6, h7]
            exact hk _ _ (by rw [hF2]; simp [hl, h4, h6, h7]) hx3
        · simp (disch := first | assumption | omega | (simp only [szR, entC_len, entC_all] <;> omega) | rfl | decide) only [gen0, gen1, gen2, rulesM, litR, bolR, Nat.reduceAdd, Nat.reduceLeDiff, numR, memR, valR, heapR, updR, intR, decR, extR, slR, segR, thenR, pnR, Int.reduceToNat, Int.reduceAdd, Int.reduceSub, Int.reduceLT, Int.reduceLE, Nat.reduceSub, Nat.reduceMul, Nat.reduceEqDiff, joinBR, hk2, entC_at, h0, h1, h2, h8, h9, h4, h6]
          exact hk _ _ (by rw [hF2]; simp [hl, h4, h6]) hx3
      · simp (disch := first | assumption | omega | (simp only [szR, entC_len, entC_all] <;> omega) | rfl | decide) only [gen0, gen1, gen2, rulesM, litR, bolR, Nat.reduceAdd, Nat.reduceLeDiff, numR, memR, valR, heapR, updR, intR, decR, extR, slR, segR, thenR, pnR, Int.reduceToNat, Int.reduceAdd, Int.reduceSub, Int.reduceLT, Int.reduceLE, Nat.reduceSub, Nat.reduceMul, Nat.reduceEqDiff, joinBR, hk2, entC_at, h0, h1, h2, h8, h9, h4]
        exact hk _ _ (by rw [hF2]; simp [hl, h4]) hx3
    · simp (disch := first | assumption | omega | (simp only [szR, entC_len, entC_all] <;> omega) | rfl | decide) only [gen0, gen1, gen2, rulesM, litR, bolR, Nat.reduceAdd, Nat.reduceLeDiff, numR, memR, valR, heapR, updR, intR, decR, extR, slR, segR, thenR, pnR, Int.reduceToNat, Int.reduceAdd, Int.reduceSub, Int.reduceLT, Int.reduceLE, Nat.reduceSub, Nat.reduceMul, Nat.reduceEqDiff, joinBR, hk2, entC_at, h0, h1, h2, h8, h9]
      exact hk _ _ (by rw [hF2]; simp [hl]) hx3
theorem div512 (x k : Nat) : x / 512 ^ k / 512 = x / 512 ^ (k + 1) := by rw [Nat.div_div_eq_div_mul, Nat.pow_succ]
theorem RIndex_spec {w : World} {x l : Nat} (hx : x < 18446744073709551616) (hl : l < 3) {K : Value → World → Prop} (hK : ∀ w', Ext [] w w' → K (.int .i64 (idx x l : Nat)) w') : callsK Try.prog 51 #[.int .u64 x, .int .i64 l] w K := by
  have hlt := idx_lt x l
  have hid : ((x / 512 ^ l : Nat) : Int) / 4096 % 512 = ((idx x l : Nat) : Int) := by
    unfold idx
    rcases (by omega : l = 0 ∨ l = 1 ∨ l = 2) with rfl | rfl | rfl
    all_goals simp only [Nat.reducePow, Nat.reduceMul, Nat.reduceAdd]; omega
  apply F51_ok
  unfold F51
  simp (disch := first | assumption | omega | (simp only [szR, entC_len, entC_all] <;> omega) | rfl | decide) only [gen0, gen1, gen2, rulesM, litR, bolR, Nat.reduceAdd, Nat.reduceLeDiff, numR, memR, valR, heapR, updR, intR, decR, extR, slR, segR, thenR, pnR, Int.reduceToNat, Int.reduceAdd, Int.reduceSub, Int.reduceLT, Int.reduceLE, Nat.reduceSub, Nat.reduceMul, Nat.reduceEqDiff, joinBR]
  refine loopT.intro (fun (st : List Value) (w' : World) => ∃ (k : Nat) (z : Int), k ≤ l ∧ st = [.int .u64 (x / 512 ^ k : Nat), .int .i64 z] ∧ z = k ∧ w' = w)
    (fun st _ => match st with
      | [_, .int _ z] => l - z.toNat
      | _ => 0) ⟨0, 0, by omega, by simp, rfl, rfl⟩ ?_
  rintro st w' ⟨k, z, hk, rfl, rfl, rfl⟩ _
  have hq : x / 512 ^ k < 18446744073709551616 := Nat.lt_of_le_of_lt (Nat.div_le_self _ _) hx
  by_cases hkl : k < l
  · have h5 := div512 x k
    generalize x / 512 ^ (k + 1) = y at h5
    generalize hqq : x / 512 ^ k = q at h5 hq
    have e : (q : Int) / 512 = ((y : Nat) : Int) := by omega
    simp (disch := first | assumption | omega | (simp only [szR, entC_len, entC_all] <;> omega) | rfl | decide) only [gen0, gen1, gen2, rulesM, litR, bolR, Nat.reduceAdd, Nat.reduceLeDiff, numR, memR, valR, heapR, updR, intR, decR, extR, slR, segR, thenR, pnR, Int.reduceToNat, Int.reduceAdd, Int.reduceSub, Int.reduceLT, Int.reduceLE, Nat.reduceSub, Nat.reduceMul, Nat.reduceEqDiff, e]
    subst h5
    refine ⟨⟨k + 1, (k : Int) + 1, by omega, ?_, by omega, by first | rfl | trivial⟩, by first | omega | (simp <;> omega)⟩
    rw [← hqq, div512]
  · obtain rfl : k = l := by omega
    generalize x / 512 ^ k = q at hq hid
    generalize idx x k = y at hlt hid hK
    simp (disch := first | assumption | omega | (simp only [szR, entC_len, entC_all] <;> omega) | rfl | decide) only [gen0, gen1, gen2, rulesM, litR, bolR, Nat.reduceAdd, Nat.reduceLeDiff, numR, memR, valR, heapR, updR, intR, decR, extR, slR, segR, thenR, pnR, Int.reduceToNat, Int.reduceAdd, Int.reduceSub, Int.reduceLT, Int.reduceLE, Nat.reduceSub, Nat.reduceMul, Nat.reduceEqDiff, hid]
    exact hK _ Ext.refl
end Go.Proofs.Ytbigiabcgplkgaa
