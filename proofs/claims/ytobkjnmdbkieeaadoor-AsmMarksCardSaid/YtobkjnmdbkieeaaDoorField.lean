/- Fields of words: what is there, and what is put there; conditions: those of each theorem. -/
import Derived.Test.YtobkjnmdbkieeaaDoorFC
import Derived.Test.YtobkjnmdbkieeaaDoorRC
import Derived.Test.YtobkjnmdbkieeaaDoorBits
namespace Go.Proofs.YtobkjnmdbkieeaaDoor
open Go.Fx
set_option maxRecDepth 100000
set_option linter.unusedSimpArgs false
set_option linter.unusedVariables false
theorem kept0 {w w' : World} (h : Ext [] w w') : ∀ k, k < w.heap.size → w'.heap[k]? = w.heap[k]? := fun k hk => h.kept k hk (by simp)
theorem pow64 {i : Nat} (h : i < 64) : (2 : Nat) ^ i < 18446744073709551616 := Nat.pow_lt_pow_right (a := 2) (by omega) h
theorem shl_one {i : Int} (h : 0 ≤ i ∧ i < 64) : IntKind.u64.wrap (1 * 2 ^ i.toNat) = ((2 ^ i.toNat : Nat) : Int) := by
  have := pow64 (i := i.toNat) (by omega)
  have e2 : (1 : Int) * 2 ^ i.toNat = ((2 ^ i.toNat : Nat) : Int) := by simp
  rw [e2]
  generalize 2 ^ i.toNat = p at this
  exact wrap_u64 ⟨by omega, by omega⟩
theorem fdivP {v : Nat} (k : Nat) : (v : Int).fdiv (2 ^ k) = ((v / 2 ^ k : Nat) : Int) := by
  rw [Int.fdiv_eq_ediv_of_nonneg _ (Int.le_of_lt (Int.pow_pos (by omega)))]
  simp
theorem mulP {v : Nat} (k : Nat) (h : v * 2 ^ k < 18446744073709551616) : IntKind.u64.wrap ((v : Int) * 2 ^ k) = ((v * 2 ^ k : Nat) : Int) := by
  have e : (v : Int) * 2 ^ k = ((v * 2 ^ k : Nat) : Int) := by simp
  rw [e]
  generalize v * 2 ^ k = p at h
  exact wrap_u64 ⟨by omega, by omega⟩
theorem fmay_spec {w : World} {a b : Int} (h : 0 ≤ b ∧ b ≤ 64 ∧ 0 ≤ a ∧ a ≤ 64 - b) {K : Value → World → Prop} (hK : K (.bool true) w) : callsK Tryd.prog 42 #[.int .i64 a, .int .i64 b] w K := by
  apply F42_ok
  unfold F42
  simp (disch := first | assumption | omega | (simp only [szR] <;> omega) | rfl | decide) only [gen0, gen1, gen2, rulesC, litR, bolR, Nat.reduceAdd, Nat.reduceLeDiff, numR, memR, valR, heapR, updR, intR, decR, extR, slR, segR, thenR, pnR, Int.reduceToNat, Int.reduceAdd, Int.reduceSub, Int.reduceLT, Int.reduceLE, Nat.reduceSub, Nat.reduceMul, Nat.reduceEqDiff, joinBR]
  exact hK
theorem fMask_spec {w : World} {k : Int} (h : 0 < k ∧ k < 64) {K : Value → World → Prop} (hK : K (.int .u64 ((2 ^ k.toNat - 1 : Nat) : Int)) w) : callsK Tryd.prog 39 #[.int .i64 k] w K := by
  have hs := shl_one (i := k) ⟨by omega, by omega⟩
  have hpl := pow64 (i := k.toNat) (by omega)
  have hp := Nat.two_pow_pos k.toNat
  apply F39_ok
  unfold F39
  generalize 2 ^ k.toNat = p at hpl hp hK hs
  have e : (p : Int) - 1 = ((p - 1 : Nat) : Int) := by omega
  simp (disch := first | assumption | omega | (simp only [szR] <;> omega) | rfl | decide) only [gen0, gen1, gen2, rulesC, litR, bolR, Nat.reduceAdd, Nat.reduceLeDiff, numR, memR, valR, heapR, updR, intR, decR, extR, slR, segR, thenR, pnR, Int.reduceToNat, Int.reduceAdd, Int.reduceSub, Int.reduceLT, Int.reduceLE, Nat.reduceSub, Nat.reduceMul, Nat.reduceEqDiff, hs, e]
  exact hK
theorem fGet_spec {w : World} {x : Nat} {a k : Int} (ha : 0 ≤ a) (hk : 0 < k ∧ k < 64) (hak : a + k ≤ 64) (hx : x < 18446744073709551616) {K : Value → World → Prop}
    (hK : ∀ w', Ext [] w w' → K (.int .u64 ((x / 2 ^ a.toNat % 2 ^ k.toNat : Nat) : Int)) w') : callsK Tryd.prog 38 #[.int .u64 x, .int .i64 a, .int .i64 k] w K := by
  have hfd := fdivP (v := x) a.toNat
  have hq : x / 2 ^ a.toNat < 18446744073709551616 := Nat.lt_of_le_of_lt (Nat.div_le_self _ _) hx
  have hmod := Nat.and_two_pow_sub_one_eq_mod (x / 2 ^ a.toNat) k.toNat
  have hpl := pow64 (i := k.toNat) (by omega)
  have hp := Nat.two_pow_pos k.toNat
  apply F38_ok
  unfold F38
  simp (disch := first | assumption | omega | (simp only [szR] <;> omega) | rfl | decide) only [gen0, gen1, gen2, rulesC, litR, bolR, Nat.reduceAdd, Nat.reduceLeDiff, numR, memR, valR, heapR, updR, intR, decR, extR, slR, segR, thenR, pnR, Int.reduceToNat, Int.reduceAdd, Int.reduceSub, Int.reduceLT, Int.reduceLE, Nat.reduceSub, Nat.reduceMul, Nat.reduceEqDiff]
  refine fmay_spec (by omega) ?_
  generalize x / 2 ^ a.toNat = q at hfd hq hmod hK
  simp (disch := first | assumption | omega | (simp only [szR] <;> omega) | rfl | decide) only [gen0, gen1, gen2, rulesC, litR, bolR, Nat.reduceAdd, Nat.reduceLeDiff, numR, memR, valR, heapR, updR, intR, decR, extR, slR, segR, thenR, pnR, Int.reduceToNat, Int.reduceAdd, Int.reduceSub, Int.reduceLT, Int.reduceLE, Nat.reduceSub, Nat.reduceMul, Nat.reduceEqDiff, hfd]
  refine fMask_spec hk ?_
  generalize 2 ^ k.toNat = p at hmod hpl hp hK
  have hand := and_u64 (a := (q : Int)) (b := ((p - 1 : Nat) : Int)) (by omega) (by omega)
  simp only [Int.toNat_natCast, hmod] at hand
  simp (disch := first | assumption | omega | (simp only [szR] <;> omega) | rfl | decide) only [gen0, gen1, gen2, rulesC, litR, bolR, Nat.reduceAdd, Nat.reduceLeDiff, numR, memR, valR, heapR, updR, intR, decR, extR, slR, segR, thenR, pnR, Int.reduceToNat, Int.reduceAdd, Int.reduceSub, Int.reduceLT, Int.reduceLE, Nat.reduceSub, Nat.reduceMul, Nat.reduceEqDiff, hand]
  exact hK _ (by (repeat first | assumption | exact Ext.refl | apply Ext.alloc | apply Ext.drew | (refine Ext.updN ?_ ?_; (focus first | omega | (simp only [szR] <;> omega))) | (refine Ext.updI ?_ ?_; (focus (simp; done)))))
theorem fPut_spec {w : World} {x v : Nat} {a k : Int} (ha : 0 ≤ a) (hk : 0 < k ∧ k < 64) (hak : a + k ≤ 64) (hx : x < 2 ^ a.toNat) (hv : v < 18446744073709551616) {K : Value → World → Prop}
    (hK : ∀ w', Ext [] w w' → K (.int .u64 ((x + v % 2 ^ k.toNat * 2 ^ a.toNat : Nat) : Int)) w') : callsK Tryd.prog 19 #[.int .u64 x, .int .i64 a, .int .i64 k, .int .u64 v] w K := by
  have hmod := Nat.and_two_pow_sub_one_eq_mod v k.toNat
  have hpl := pow64 (i := k.toNat) (by omega)
  have hpa := pow64 (i := a.toNat) (by omega)
  have hp := Nat.two_pow_pos k.toNat
  have hpp : 2 ^ k.toNat * 2 ^ a.toNat ≤ 18446744073709551616 := by
    rw [← Nat.pow_add]
    exact Nat.pow_le_pow_right (n := 2) (by omega) (show k.toNat + a.toNat ≤ 64 by omega)
  have hor := Nat.two_pow_add_eq_or_of_lt hx (v % 2 ^ k.toNat)
  have hm : (2 ^ k.toNat - 1) * 2 ^ a.toNat < 18446744073709551616 := by
    refine Nat.lt_of_lt_of_le ?_ hpp
    exact Nat.mul_lt_mul_of_pos_right (by omega) (Nat.two_pow_pos _)
  have hmv : v % 2 ^ k.toNat * 2 ^ a.toNat < 18446744073709551616 := by
    refine Nat.lt_of_lt_of_le ?_ hpp
    exact Nat.mul_lt_mul_of_pos_right (Nat.mod_lt _ hp) (Nat.two_pow_pos _)
  have hs1 := mulP (v := 2 ^ k.toNat - 1) a.toNat hm
  have hs2 := mulP (v := v % 2 ^ k.toNat) a.toNat hmv
  have hx64 : x < 18446744073709551616 := by omega
  obtain ⟨r, hr, hr64, hrb⟩ := andNot_u64 (a := (x : Int)) (b := (((2 ^ k.toNat - 1) * 2 ^ a.toNat : Nat) : Int)) (by omega) (by omega)
  have hrx : r = x := by
    apply Nat.eq_of_testBit_eq
    intro i
    by_cases hi : i < 64
    · rw [hrb i hi, Int.toNat_natCast, Int.toNat_natCast]
      by_cases hia : i < a.toNat
      · rw [Nat.mul_comm, Nat.testBit_two_pow_mul]
        simp
        omega
      · have : x.testBit i = false := Nat.testBit_lt_two_pow (Nat.lt_of_lt_of_le hx (Nat.pow_le_pow_right (by omega) (by omega)))
        rw [this]
        simp
    · have p : 2 ^ 64 ≤ 2 ^ i := Nat.pow_le_pow_right (by omega) (by omega)
      rw [Nat.testBit_lt_two_pow (by omega), Nat.testBit_lt_two_pow (by omega)]
  rw [hrx] at hr
  have hand := and_u64 (a := (v : Int)) (b := ((2 ^ k.toNat - 1 : Nat) : Int)) (by omega) (by omega)
  simp only [Int.toNat_natCast, hmod] at hand
  have horu := or_u64 (a := (x : Int)) (b := ((v % 2 ^ k.toNat * 2 ^ a.toNat : Nat) : Int)) (by omega) (by omega)
  simp only [Int.toNat_natCast] at horu
  have e : x ||| v % 2 ^ k.toNat * 2 ^ a.toNat = x + v % 2 ^ k.toNat * 2 ^ a.toNat := by
    rw [Nat.or_comm, Nat.mul_comm, ← hor, Nat.add_comm]
  rw [e] at horu
  apply F19_ok
  unfold F19
  simp (disch := first | assumption | omega | (simp only [szR] <;> omega) | rfl | decide) only [gen0, gen1, gen2, rulesC, litR, bolR, Nat.reduceAdd, Nat.reduceLeDiff, numR, memR, valR, heapR, updR, intR, decR, extR, slR, segR, thenR, pnR, Int.reduceToNat, Int.reduceAdd, Int.reduceSub, Int.reduceLT, Int.reduceLE, Nat.reduceSub, Nat.reduceMul, Nat.reduceEqDiff]
  refine fmay_spec (by omega) ?_
  simp (disch := first | assumption | omega | (simp only [szR] <;> omega) | rfl | decide) only [gen0, gen1, gen2, rulesC, litR, bolR, Nat.reduceAdd, Nat.reduceLeDiff, numR, memR, valR, heapR, updR, intR, decR, extR, slR, segR, thenR, pnR, Int.reduceToNat, Int.reduceAdd, Int.reduceSub, Int.reduceLT, Int.reduceLE, Nat.reduceSub, Nat.reduceMul, Nat.reduceEqDiff]
  refine fMask_spec hk ?_
  generalize 2 ^ k.toNat - 1 = mk at hs1 hr hand hm
  generalize v % 2 ^ k.toNat = vk at hs2 hand horu hmv hK
  generalize mk * 2 ^ a.toNat = q1 at hs1 hr hm
  generalize vk * 2 ^ a.toNat = q2 at hs2 horu hmv hK
  simp (disch := first | assumption | omega | (simp only [szR] <;> omega) | rfl | decide) only [gen0, gen1, gen2, rulesC, litR, bolR, Nat.reduceAdd, Nat.reduceLeDiff, numR, memR, valR, heapR, updR, intR, decR, extR, slR, segR, thenR, pnR, Int.reduceToNat, Int.reduceAdd, Int.reduceSub, Int.reduceLT, Int.reduceLE, Nat.reduceSub, Nat.reduceMul, Nat.reduceEqDiff, hs1, hr, hand, hs2, horu]
  exact hK _ (by (repeat first | assumption | exact Ext.refl | apply Ext.alloc | apply Ext.drew | (refine Ext.updN ?_ ?_; (focus first | omega | (simp only [szR] <;> omega))) | (refine Ext.updI ?_ ?_; (focus (simp; done)))))
end Go.Proofs.YtobkjnmdbkieeaaDoor
