/- A field laid where it is clear; conditions: those of each theorem. -/
import Derived.Test.YtplfniijbeinmaaGreatJmp3
namespace Go.Proofs.YtplfniijbeinmaaGreat
open Go.Fx
set_option maxRecDepth 100000
set_option linter.unusedSimpArgs false
set_option linter.unusedVariables false
theorem or_zero {x v a k : Nat} (hz : x / 2 ^ a % 2 ^ k = 0) (hv : v < 2 ^ k) : x ||| v * 2 ^ a = x + v * 2 ^ a := by
  have hL : x % 2 ^ a < 2 ^ a := Nat.mod_lt _ (Nat.two_pow_pos _)
  have h1 : x = 2 ^ (a + k) * (x / 2 ^ (a + k)) + x % 2 ^ a := by
    have e1 := Nat.div_add_mod x (2 ^ a)
    have e2 := Nat.div_add_mod (x / 2 ^ a) (2 ^ k)
    rw [hz, Nat.add_zero, Nat.div_div_eq_div_mul, ← Nat.pow_add] at e2
    rw [← e2] at e1
    rw [Nat.pow_add, Nat.mul_assoc, ← Nat.pow_add]
    exact e1.symm
  have hlt : 2 ^ a * v + x % 2 ^ a < 2 ^ (a + k) := by
    rw [Nat.pow_add]
    have : 2 ^ a * v + 2 ^ a ≤ 2 ^ a * 2 ^ k := by
      rw [← Nat.mul_succ]
      exact Nat.mul_le_mul_left _ hv
    omega
  have hL2 : x % 2 ^ a < 2 ^ (a + k) := Nat.lt_of_le_of_lt (Nat.le_add_left _ _) hlt
  have o1 := Nat.two_pow_add_eq_or_of_lt hL v
  have o2 := Nat.two_pow_add_eq_or_of_lt hL2 (x / 2 ^ (a + k))
  have o3 := Nat.two_pow_add_eq_or_of_lt hlt (x / 2 ^ (a + k))
  rw [Nat.mul_comm v]
  calc x ||| 2 ^ a * v = (2 ^ (a + k) * (x / 2 ^ (a + k)) ||| x % 2 ^ a) ||| 2 ^ a * v := by rw [← o2, ← h1]
    _ = 2 ^ (a + k) * (x / 2 ^ (a + k)) ||| (2 ^ a * v ||| x % 2 ^ a) := by rw [Nat.or_assoc, Nat.or_comm (x % 2 ^ a)]
    _ = 2 ^ (a + k) * (x / 2 ^ (a + k)) + (2 ^ a * v + x % 2 ^ a) := by rw [← o1, o3]
    _ = x + 2 ^ a * v := by omega
theorem fPutZ_spec {w : World} {x v : Nat} {a k : Int} (ha : 0 ≤ a) (hk : 0 < k ∧ k < 64) (hak : a + k ≤ 64) (hx64 : x < 18446744073709551616) (hz : x / 2 ^ a.toNat % 2 ^ k.toNat = 0) (hv : v < 18446744073709551616) {K : Value → World → Prop}
    (hK : ∀ w', Ext [] w w' → K (.int .u64 ((x + v % 2 ^ k.toNat * 2 ^ a.toNat : Nat) : Int)) w') : callsK Tryz.prog 41 #[.int .u64 x, .int .i64 a, .int .i64 k, .int .u64 v] w K := by
  have hmod := Nat.and_two_pow_sub_one_eq_mod v k.toNat
  have hpl := pow64 (i := k.toNat) (by omega)
  have hpa := pow64 (i := a.toNat) (by omega)
  have hp := Nat.two_pow_pos k.toNat
  have hpp : 2 ^ k.toNat * 2 ^ a.toNat ≤ 18446744073709551616 := by
    rw [← Nat.pow_add]
    exact Nat.pow_le_pow_right (n := 2) (by omega) (show k.toNat + a.toNat ≤ 64 by omega)
  have hm : (2 ^ k.toNat - 1) * 2 ^ a.toNat < 18446744073709551616 := by
    refine Nat.lt_of_lt_of_le ?_ hpp
    exact Nat.mul_lt_mul_of_pos_right (by omega) (Nat.two_pow_pos _)
  have hmv : v % 2 ^ k.toNat * 2 ^ a.toNat < 18446744073709551616 := by
    refine Nat.lt_of_lt_of_le ?_ hpp
    exact Nat.mul_lt_mul_of_pos_right (Nat.mod_lt _ hp) (Nat.two_pow_pos _)
  have hs1 := mulP (v := 2 ^ k.toNat - 1) a.toNat hm
  have hs2 := mulP (v := v % 2 ^ k.toNat) a.toNat hmv
  obtain ⟨r, hr, hr64, hrb⟩ := andNot_u64 (a := (x : Int)) (b := (((2 ^ k.toNat - 1) * 2 ^ a.toNat : Nat) : Int)) (by omega) (by omega)
  have hrx : r = x := by
    apply Nat.eq_of_testBit_eq
    intro i
    by_cases hi : i < 64
    · rw [hrb i hi, Int.toNat_natCast, Int.toNat_natCast]
      cases hxb : x.testBit i with
      | false => simp
      | true =>
        rw [Nat.mul_comm, Nat.testBit_two_pow_mul]
        by_cases hia : a.toNat ≤ i
        · rw [Nat.testBit_two_pow_sub_one]
          by_cases hik : i - a.toNat < k.toNat
          · have h0 : (x / 2 ^ a.toNat % 2 ^ k.toNat).testBit (i - a.toNat) = false := by rw [hz, Nat.zero_testBit]
            rw [Nat.testBit_mod_two_pow, decide_eq_true hik, Bool.true_and, Nat.testBit_div_two_pow, Nat.sub_add_cancel hia, hxb] at h0
            exact absurd h0 (by decide)
          · simp [hik]
        · simp [hia]
    · have p : 2 ^ 64 ≤ 2 ^ i := Nat.pow_le_pow_right (by omega) (by omega)
      rw [Nat.testBit_lt_two_pow (by omega), Nat.testBit_lt_two_pow (by omega)]
  rw [hrx] at hr
  have hand := and_u64 (a := (v : Int)) (b := ((2 ^ k.toNat - 1 : Nat) : Int)) (by omega) (by omega)
  simp only [Int.toNat_natCast, hmod] at hand
  have horu := or_u64 (a := (x : Int)) (b := ((v % 2 ^ k.toNat * 2 ^ a.toNat : Nat) : Int)) (by omega) (by omega)
  simp only [Int.toNat_natCast] at horu
  have e : x ||| v % 2 ^ k.toNat * 2 ^ a.toNat = x + v % 2 ^ k.toNat * 2 ^ a.toNat := by
    exact or_zero hz (Nat.mod_lt _ hp)
  rw [e] at horu
  apply F41_ok
  unfold F41
  simp (disch := first | assumption | omega | (simp only [szR, rwC_len, rwC_all, inC_len, inC_all, pcC_len, pcC_all, loC_len, loC_all] <;> omega) | rfl | decide) only [gen0, gen1, gen2, rulesC, rulesX, rulesM, rulesJ, litR, bolR, Nat.reduceAdd, Nat.reduceLeDiff, numR, memR, valR, heapR, updR, intR, decR, extR, slR, segR, thenR, pnR, Int.reduceToNat, Int.reduceAdd, Int.reduceSub, Int.reduceLT, Int.reduceLE, Nat.reduceSub, Nat.reduceMul, Nat.reduceEqDiff]
  refine fmay_spec (by omega) ?_
  simp (disch := first | assumption | omega | (simp only [szR, rwC_len, rwC_all, inC_len, inC_all, pcC_len, pcC_all, loC_len, loC_all] <;> omega) | rfl | decide) only [gen0, gen1, gen2, rulesC, rulesX, rulesM, rulesJ, litR, bolR, Nat.reduceAdd, Nat.reduceLeDiff, numR, memR, valR, heapR, updR, intR, decR, extR, slR, segR, thenR, pnR, Int.reduceToNat, Int.reduceAdd, Int.reduceSub, Int.reduceLT, Int.reduceLE, Nat.reduceSub, Nat.reduceMul, Nat.reduceEqDiff]
  refine fMask_spec hk ?_
  generalize 2 ^ k.toNat - 1 = mk at hs1 hr hand hm
  generalize v % 2 ^ k.toNat = vk at hs2 hand horu hmv hK
  generalize mk * 2 ^ a.toNat = q1 at hs1 hr hm
  generalize vk * 2 ^ a.toNat = q2 at hs2 horu hmv hK
  simp (disch := first | assumption | omega | (simp only [szR, rwC_len, rwC_all, inC_len, inC_all, pcC_len, pcC_all, loC_len, loC_all] <;> omega) | rfl | decide) only [gen0, gen1, gen2, rulesC, rulesX, rulesM, rulesJ, litR, bolR, Nat.reduceAdd, Nat.reduceLeDiff, numR, memR, valR, heapR, updR, intR, decR, extR, slR, segR, thenR, pnR, Int.reduceToNat, Int.reduceAdd, Int.reduceSub, Int.reduceLT, Int.reduceLE, Nat.reduceSub, Nat.reduceMul, Nat.reduceEqDiff, hs1, hr, hand, hs2, horu]
  exact hK _ (by (repeat first | assumption | exact Ext.refl | apply Ext.alloc | apply Ext.drew | (refine Ext.updN ?_ ?_; (focus first | omega | (simp only [szR] <;> omega))) | (refine Ext.updI ?_ ?_; (focus (simp; done)))))
theorem iof_spec {w : World} {n : Nat} (hn : 1 ≤ n ∧ n ≤ 69) {K : Value → World → Prop} (hK : ∀ w', Ext [] w w' → K (.tuple #[.agg (rwC (row (n - 1))).toArray, .bool true]) w') : callsK Tryz.prog 34 #[.int .i64 (n : Nat)] w K := by
  apply F34_ok
  unfold F34
  simp (disch := first | assumption | omega | (simp only [szR, rwC_len, rwC_all, inC_len, inC_all, pcC_len, pcC_all, loC_len, loC_all] <;> omega) | rfl | decide) only [gen0, gen1, gen2, rulesC, rulesX, rulesM, rulesJ, litR, bolR, Nat.reduceAdd, Nat.reduceLeDiff, numR, memR, valR, heapR, updR, intR, decR, extR, slR, segR, thenR, pnR, Int.reduceToNat, Int.reduceAdd, Int.reduceSub, Int.reduceLT, Int.reduceLE, Nat.reduceSub, Nat.reduceMul, Nat.reduceEqDiff, joinBR]
  refine rows_spec fun w1 hx1 => ?_
  have h1 : w1.heap[w.heap.size]? = some (.cells [.string ⟨#[]⟩, .int .u8 0, .int .u64 0, .int .u64 0, .int .u64 0].toArray 101 (0, 0)) := hx1.at (alloc_at rfl) (by simp)
  have l1 := lt_of_at h1
  have hx2 : Ext [] w w1 := Ext.trans (S := []) (by (repeat first | assumption | exact Ext.refl | apply Ext.alloc | apply Ext.drew | (refine Ext.updN ?_ ?_; (focus first | omega | (simp only [szR] <;> omega))) | (refine Ext.updI ?_ ?_; (focus (simp; done))))) hx1 (by simp)
  have hix := row_ix (n - 1) (by omega)
  have en : ((n : Nat) : Int) - 1 = ((n - 1 : Nat) : Int) := by omega
  have rsb : ∀ r, sub (rwC r) 0 5 = rwC r := fun _ => rfl
  simp (disch := first | assumption | omega | (simp only [szR, rwC_len, rwC_all, inC_len, inC_all, pcC_len, pcC_all, loC_len, loC_all] <;> omega) | rfl | decide) only [gen0, gen1, gen2, rulesC, rulesX, rulesM, rulesJ, litR, bolR, Nat.reduceAdd, Nat.reduceLeDiff, numR, memR, valR, heapR, updR, intR, decR, extR, slR, segR, thenR, pnR, Int.reduceToNat, Int.reduceAdd, Int.reduceSub, Int.reduceLT, Int.reduceLE, Nat.reduceSub, Nat.reduceMul, Nat.reduceEqDiff, en, hix, h1, rw_over, rw_put, rsb]
  exact hK _ (by (repeat first | assumption | exact Ext.refl | apply Ext.alloc | apply Ext.drew | (refine Ext.updN ?_ ?_; (focus first | omega | (simp only [szR] <;> omega))) | (refine Ext.updI ?_ ?_; (focus (simp; done)))))
theorem fitsS_spec {w : World} {x b : Nat} (hb : 1 ≤ b ∧ b ≤ 64) (hx : x < 2 ^ (b - 1)) {K : Value → World → Prop} (hK : K (.bool true) w) : callsK Tryz.prog 40 #[.int .i64 (x : Nat), .int .i64 (b : Nat), .bool true] w K := by
  have hx63 : x < 9223372036854775808 := by
    have : (2 : Nat) ^ (b - 1) ≤ 2 ^ 63 := Nat.pow_le_pow_right (by omega) (by omega)
    have : (2 : Nat) ^ 63 = 9223372036854775808 := by decide
    omega
  apply F40_ok
  unfold F40
  simp (disch := first | assumption | omega | (simp only [szR, rwC_len, rwC_all, inC_len, inC_all, pcC_len, pcC_all, loC_len, loC_all] <;> omega) | rfl | decide) only [gen0, gen1, gen2, rulesC, rulesX, rulesM, rulesJ, litR, bolR, Nat.reduceAdd, Nat.reduceLeDiff, numR, memR, valR, heapR, updR, intR, decR, extR, slR, segR, thenR, pnR, Int.reduceToNat, Int.reduceAdd, Int.reduceSub, Int.reduceLT, Int.reduceLE, Nat.reduceSub, Nat.reduceMul, Nat.reduceEqDiff, joinBR]
  refine Sign_spec hb hx ?_
  simp (disch := first | assumption | omega | (simp only [szR, rwC_len, rwC_all, inC_len, inC_all, pcC_len, pcC_all, loC_len, loC_all] <;> omega) | rfl | decide) only [gen0, gen1, gen2, rulesC, rulesX, rulesM, rulesJ, litR, bolR, Nat.reduceAdd, Nat.reduceLeDiff, numR, memR, valR, heapR, updR, intR, decR, extR, slR, segR, thenR, pnR, Int.reduceToNat, Int.reduceAdd, Int.reduceSub, Int.reduceLT, Int.reduceLE, Nat.reduceSub, Nat.reduceMul, Nat.reduceEqDiff]
  exact hK
theorem fitsU_spec {w : World} {x : Nat} (hx : x < 32) {K : Value → World → Prop} (hK : K (.bool true) w) : callsK Tryz.prog 40 #[.int .i64 (x : Nat), .int .i64 5, .bool false] w K := by
  have h31 : (List.range 32).all (fun k => decide (bitI .andNot .u64 ((k : Nat) : Int) 31 = 0)) = true := by kernel_rfl
  have hz := of_decide_eq_true (List.all_eq_true.1 h31 x (List.mem_range.2 hx))
  apply F40_ok
  unfold F40
  simp (disch := first | assumption | omega | (simp only [szR, rwC_len, rwC_all, inC_len, inC_all, pcC_len, pcC_all, loC_len, loC_all] <;> omega) | rfl | decide) only [gen0, gen1, gen2, rulesC, rulesX, rulesM, rulesJ, litR, bolR, Nat.reduceAdd, Nat.reduceLeDiff, numR, memR, valR, heapR, updR, intR, decR, extR, slR, segR, thenR, pnR, Int.reduceToNat, Int.reduceAdd, Int.reduceSub, Int.reduceLT, Int.reduceLE, Nat.reduceSub, Nat.reduceMul, Nat.reduceEqDiff, joinBR]
  refine fMask_spec (k := 5) (by omega) ?_
  have e5 : ((2 ^ (5 : Int).toNat - 1 : Nat) : Int) = 31 := rfl
  rw [e5]
  simp (disch := first | assumption | omega | (simp only [szR, rwC_len, rwC_all, inC_len, inC_all, pcC_len, pcC_all, loC_len, loC_all] <;> omega) | rfl | decide) only [gen0, gen1, gen2, rulesC, rulesX, rulesM, rulesJ, litR, bolR, Nat.reduceAdd, Nat.reduceLeDiff, numR, memR, valR, heapR, updR, intR, decR, extR, slR, segR, thenR, pnR, Int.reduceToNat, Int.reduceAdd, Int.reduceSub, Int.reduceLT, Int.reduceLE, Nat.reduceSub, Nat.reduceMul, Nat.reduceEqDiff, joinBR, hz]
  exact hK
end Go.Proofs.YtplfniijbeinmaaGreat
