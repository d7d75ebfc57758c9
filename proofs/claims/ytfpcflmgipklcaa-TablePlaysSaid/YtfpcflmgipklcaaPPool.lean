/- A pool of frames: taken, given back, counted; conditions: those of each theorem. -/
import Derived.Test.YtfpcflmgipklcaaPAll
import Derived.Test.YtfpcflmgipklcaaRam
import Derived.Test.YtfpcflmgipklcaaBits
namespace Go.Proofs.Ytfpcflmgipklcaa
open Go.Fx
set_option maxRecDepth 100000
set_option linter.unusedSimpArgs false
set_option linter.unusedVariables false
theorem natU {y : Nat} (h : y < 18446744073709551616) : 0 ≤ (y : Int) ∧ (y : Int) < 18446744073709551616 := by omega
theorem run_ux {w : World} {t : Nat} (ht : t < 18446744073709551616) : (Op.unary .xor (.int .u64 (t : Nat))).run Try.prog w = .ok (.int .u64 ((18446744073709551615 ^^^ t : Nat) : Int)) w := by
  have h := xor_u64 (a := 18446744073709551615) (b := (t : Nat)) (by omega) (by omega)
  have h2 : (Op.unary .xor (.int .u64 (t : Nat))).run Try.prog w = .ok (.int .u64 (bitI .xor .u64 18446744073709551615 (t : Nat))) w := rfl
  rw [h2, h]
  rfl
def openW (n t : Nat) : Nat := (18446744073709551615 ^^^ t) &&& (2 ^ n - 1)
theorem openW_lt (n t : Nat) (hn : n ≤ 63) : openW n t < 18446744073709551616 := by
  have h1 : openW n t ≤ 2 ^ n - 1 := Nat.and_le_right
  have h2 : (2 : Nat) ^ n ≤ 2 ^ 63 := Nat.pow_le_pow_right (by omega) hn
  have h3 : (2 : Nat) ^ 63 = 9223372036854775808 := by decide
  omega
theorem openW_bit {n t i : Nat} (hn : n ≤ 63) : (openW n t).testBit i = (decide (i < n) && !t.testBit i) := by
  unfold openW
  rw [Nat.testBit_and, Nat.testBit_xor, Nat.testBit_two_pow_sub_one]
  have h1 : Nat.testBit 18446744073709551615 i = decide (i < 64) := Nat.testBit_two_pow_sub_one 64 i
  rw [h1]
  by_cases h : i < n
  · rw [decide_eq_true h, decide_eq_true (show i < 64 by omega)]
    simp
  · rw [decide_eq_false h]
    simp
theorem bit_iff (x i : Nat) : x / 2 ^ i % 2 = 1 ↔ x.testBit i = true := by
  rw [Nat.testBit_eq_decide_div_mod_eq, decide_eq_true_iff]
theorem onesK_nil {x k : Nat} : onesK x k = [] ↔ ∀ j, j < k → x.testBit j = false := by
  unfold onesK
  rw [List.filter_eq_nil_iff]
  constructor
  · intro h j hj
    have := h j (List.mem_range.2 hj)
    rw [Nat.testBit_eq_decide_div_mod_eq]
    simpa using this
  · intro h j hj
    have := h j (List.mem_range.1 hj)
    rw [Nat.testBit_eq_decide_div_mod_eq] at this
    simpa using this
theorem open_spec' {w : World} {n t : Nat} (hn : 1 ≤ n ∧ n ≤ 62) (ht : t < 18446744073709551616) {K : Value → World → Prop} (hK : ∀ w', Ext [] w w' → K (.int .u64 (openW n t : Nat)) w') : callsK Try.prog 42 #[.agg (plC n t).toArray] w K := by
  apply F42_ok
  unfold F42
  have e1 : ((n : Nat) : Int) - 1 = ((n - 1 : Nat) : Int) := by omega
  have p1 : (2 : Nat) ^ (n - 1) ≤ 2 ^ 61 := Nat.pow_le_pow_right (by omega) (by omega)
  have p61 : (2 : Nat) ^ 61 = 2305843009213693952 := by decide
  have pp := Nat.two_pow_pos (n - 1)
  have e2 : (2 : Nat) ^ n = 2 ^ (n - 1) * 2 := by rw [← Nat.pow_succ]; congr 1; omega
  have hux := fun w => run_ux (w := w) ht
  have hx : (18446744073709551615 ^^^ t) < 18446744073709551616 := Nat.xor_lt_two_pow (n := 64) (by decide) ht
  have s1 : IntKind.u64.wrap (1 * 2 ^ (n - 1)) = ((2 ^ (n - 1) : Nat) : Int) := by
    rw [Int.one_mul]
    have : (2 : Int) ^ (n - 1) = ((2 ^ (n - 1) : Nat) : Int) := by simp
    rw [this]
    exact wrap_u64 ⟨by omega, by omega⟩
  have s2 : IntKind.u64.wrap (((2 ^ (n - 1) : Nat) : Int) * 2 ^ 1) = ((2 ^ n : Nat) : Int) := by
    rw [Int.pow_one, e2]
    have : ((2 ^ (n - 1) : Nat) : Int) * 2 = ((2 ^ (n - 1) * 2 : Nat) : Int) := by simp
    rw [this]
    exact wrap_u64 ⟨by omega, by omega⟩
  have s3 : IntKind.u64.wrap (((2 ^ n : Nat) : Int) - 1) = ((2 ^ n - 1 : Nat) : Int) := by
    rw [show ((2 ^ n : Nat) : Int) - 1 = ((2 ^ n - 1 : Nat) : Int) by omega]
    exact wrap_u64 ⟨by omega, by omega⟩
  have hand : bitI .and .u64 ((18446744073709551615 ^^^ t : Nat) : Int) ((2 ^ n - 1 : Nat) : Int) = ((openW n t : Nat) : Int) := by
    rw [and_u64 (by omega) (by omega), Int.toNat_natCast, Int.toNat_natCast]
    rfl
  generalize 18446744073709551615 ^^^ t = y at *
  generalize 2 ^ (n - 1) = q at *
  generalize 2 ^ n = qn at *
  simp (disch := first | assumption | omega | (simp only [szR, plC_len, plC_all] <;> omega) | rfl | decide) only [gen0, gen1, gen2, rulesM, rulesT, litR, bolR, Nat.reduceAdd, Nat.reduceLeDiff, numR, memR, valR, heapR, updR, intR, decR, extR, slR, segR, thenR, pnR, Int.reduceToNat, Int.reduceAdd, Int.reduceSub, Int.reduceLT, Int.reduceLE, Nat.reduceSub, Nat.reduceMul, Nat.reduceEqDiff, plC_sub, plC_0, plC_1, hux, e1, s1, s2, s3, hand]
  exact hK _ (by (repeat first | assumption | exact Ext.refl | apply Ext.alloc | apply Ext.drew | (refine Ext.updN ?_ ?_; (focus first | omega | (simp only [szR] <;> omega))) | (refine Ext.updI ?_ ?_; (focus (simp; done)))))
/-- how many bits are 1. -/
def cntK (x m : Nat) : Nat := (onesK x m).length
theorem cntK_zero (x : Nat) : cntK x 0 = 0 := rfl
theorem cntK_succ (x m : Nat) : cntK x (m + 1) = cntK x m + (x.testBit m).toNat := by
  unfold cntK
  by_cases h : x / 2 ^ m % 2 = 1
  · rw [onesK_hit h, (bit_iff x m).1 h]
    simp
  · have h2 : x.testBit m = false := by
      cases hb : x.testBit m with
      | true => exact absurd ((bit_iff x m).2 hb) h
      | false => rfl
    rw [onesK_miss h, h2]
    simp
theorem cntK_set {x y k : Nat} (hk : x.testBit k = false) : ∀ {m : Nat}, (∀ i, i < m → y.testBit i = (x.testBit i || decide (i = k))) → cntK y m = cntK x m + (if k < m then 1 else 0)
  | 0, _ => by simp [cntK_zero]
  | m + 1, h => by
    rw [cntK_succ, cntK_succ, cntK_set hk (fun i hi => h i (by omega)), h m (by omega)]
    by_cases h1 : m = k
    · subst h1
      rw [hk, if_neg (by omega), if_pos (by omega)]
      simp
    · rw [decide_eq_false h1, Bool.or_false]
      by_cases h2 : k < m
      · rw [if_pos h2, if_pos (by omega)]
        omega
      · rw [if_neg h2, if_neg (by omega)]
        omega
theorem cntK_le (x m : Nat) : cntK x m ≤ m := onesK_length x m
theorem or_bit (t k i : Nat) : (t ||| 2 ^ k).testBit i = (t.testBit i || decide (i = k)) := by
  rw [Nat.testBit_or, Nat.testBit_two_pow]
  congr 1
  exact decide_eq_decide.2 ⟨fun h => h.symm, fun h => h.symm⟩
theorem Take_spec {w : World} {q n t : Nat} (hq : w.heap[q]? = some (.cells (plC n t).toArray 82 (0, 0))) (hn : 1 ≤ n ∧ n ≤ 62) (ht : t < 18446744073709551616) {K : Value → World → Prop}
    (h1 : ∀ k w', k < n → t.testBit k = false → (∀ j, j < k → t.testBit j = true) → w'.heap[q]? = some (.cells (plC n (t ||| 2 ^ k)).toArray 82 (0, 0)) → Ext [q] w w' → K (.tuple #[.int .i64 (k : Nat), .int .i64 0]) w')
    (h2 : ∀ w', (∀ j, j < n → t.testBit j = true) → Ext [] w w' → K (.tuple #[.int .i64 0, .int .i64 15]) w') : callsK Try.prog 14 #[.pointer (some ⟨q, 0, none⟩)] w K := by
  apply F14_ok
  unfold F14
  refine pnone_spec hq (by omega) ?_
  simp (disch := first | assumption | omega | (simp only [szR, plC_len, plC_all] <;> omega) | rfl | decide) only [gen0, gen1, gen2, rulesM, rulesT, litR, bolR, Nat.reduceAdd, Nat.reduceLeDiff, numR, memR, valR, heapR, updR, intR, decR, extR, slR, segR, thenR, pnR, Int.reduceToNat, Int.reduceAdd, Int.reduceSub, Int.reduceLT, Int.reduceLE, Nat.reduceSub, Nat.reduceMul, Nat.reduceEqDiff, hq, plC_sub]
  refine open_spec' hn ht fun w1 hx1 => ?_
  simp (disch := first | assumption | omega | (simp only [szR, plC_len, plC_all] <;> omega) | rfl | decide) only [gen0, gen1, gen2, rulesM, rulesT, litR, bolR, Nat.reduceAdd, Nat.reduceLeDiff, numR, memR, valR, heapR, updR, intR, decR, extR, slR, segR, thenR, pnR, Int.reduceToNat, Int.reduceAdd, Int.reduceSub, Int.reduceLT, Int.reduceLE, Nat.reduceSub, Nat.reduceMul, Nat.reduceEqDiff]
  refine zeros_spec (openW_lt n t (by omega)) fun z w2 hz hx2 => ?_
  have hx := hx1.trans hx2 (by simp)
  have k0 := hx.at hq (by simp)
  have l0 := lt_of_at k0
  rcases hz with ⟨hnil, rfl⟩ | ⟨hz64, hbit, hnil⟩
  · simp (disch := first | assumption | omega | (simp only [szR, plC_len, plC_all] <;> omega) | rfl | decide) only [gen0, gen1, gen2, rulesM, rulesT, litR, bolR, Nat.reduceAdd, Nat.reduceLeDiff, numR, memR, valR, heapR, updR, intR, decR, extR, slR, segR, thenR, pnR, Int.reduceToNat, Int.reduceAdd, Int.reduceSub, Int.reduceLT, Int.reduceLE, Nat.reduceSub, Nat.reduceMul, Nat.reduceEqDiff]
    refine h2 w2 (fun j hj => ?_) hx
    have := onesK_nil.1 hnil j (by omega)
    rw [openW_bit (by omega), decide_eq_true hj] at this
    simpa using this
  · have hb := (bit_iff _ _).1 hbit
    rw [openW_bit (by omega)] at hb
    simp at hb
    have hne : ¬ ((z : Nat) : Int) = 64 := by omega
    have pz : (2 : Nat) ^ z < 18446744073709551616 := Nat.pow_lt_pow_right (a := 2) (by omega) hz64
    have s1 : IntKind.u64.wrap (1 * 2 ^ z) = ((2 ^ z : Nat) : Int) := by
      rw [Int.one_mul, show (2 : Int) ^ z = ((2 ^ z : Nat) : Int) by simp]
      exact wrap_u64 (natU pz)
    have hor : bitI .or .u64 ((t : Nat) : Int) ((2 ^ z : Nat) : Int) = ((t ||| 2 ^ z : Nat) : Int) := by
      rw [or_u64 (natU ht) (natU pz), Int.toNat_natCast, Int.toNat_natCast]
    have hset : (plC n t).set 1 (.int .u64 ((t ||| 2 ^ z : Nat) : Int)) = plC n (t ||| 2 ^ z) := rfl
    have hxq : Ext [q] w w2 := hx.mono (by simp)
    have hrest := h1 z (World.upd w2.drew q (plC n (t ||| 2 ^ z))) hb.1 hb.2 (fun j hj => by
      have := onesK_nil.1 hnil j hj
      rw [openW_bit (by omega), decide_eq_true (show j < n by omega)] at this
      simpa using this) (upd_at (w := w2.drew) k0) (by (repeat first | assumption | exact Ext.refl | apply Ext.alloc | apply Ext.drew | (refine Ext.updN ?_ ?_; (focus first | omega | (simp only [szR] <;> omega))) | (refine Ext.updI ?_ ?_; (focus (simp; done)))))
    generalize t ||| 2 ^ z = t2 at *
    generalize 2 ^ z = q2 at *
    simp (disch := first | assumption | omega | (simp only [szR, plC_len, plC_all] <;> omega) | rfl | decide) only [gen0, gen1, gen2, rulesM, rulesT, litR, bolR, Nat.reduceAdd, Nat.reduceLeDiff, numR, memR, valR, heapR, updR, intR, decR, extR, slR, segR, thenR, pnR, Int.reduceToNat, Int.reduceAdd, Int.reduceSub, Int.reduceLT, Int.reduceLE, Nat.reduceSub, Nat.reduceMul, Nat.reduceEqDiff, hne, k0, plC_1, s1, hor, hset]
    exact hrest
theorem Taken_spec {w : World} {q n t k : Nat} (hq : w.heap[q]? = some (.cells (plC n t).toArray 82 (0, 0))) (hn : 1 ≤ n ∧ n ≤ 62) (ht : t < 18446744073709551616) (hk : k < n) {K : Value → World → Prop} (hK : K (.bool (t.testBit k)) w) : callsK Try.prog 43 #[.pointer (some ⟨q, 0, none⟩), .int .i64 (k : Nat)] w K := by
  apply F43_ok
  unfold F43
  refine pnone_spec hq (by omega) ?_
  have hy : t / 2 ^ k < 18446744073709551616 := Nat.lt_of_le_of_lt (Nat.div_le_self _ _) ht
  have e1 : ((t : Nat) : Int).fdiv (2 ^ k) = ((t / 2 ^ k : Nat) : Int) := by
    rw [Int.fdiv_eq_ediv_of_nonneg _ (Int.le_of_lt (Int.pow_pos (by omega)))]
    simp
  have hand : bitI .and .u64 ((t / 2 ^ k : Nat) : Int) 1 = ((t / 2 ^ k % 2 : Nat) : Int) := by
    have := bit_one (x := t) (k := k) ht
    rw [show (t : Int) / 2 ^ k = ((t / 2 ^ k : Nat) : Int) by simp] at this
    exact this
  have hb := bit_iff t k
  cases hbt : t.testBit k with
  | true =>
    rw [hbt] at hK
    have h1 := hb.2 hbt
    rw [h1] at hand
    generalize t / 2 ^ k = y at *
    simp (disch := first | assumption | omega | (simp only [szR, plC_len, plC_all] <;> omega) | rfl | decide) only [gen0, gen1, gen2, rulesM, rulesT, litR, bolR, Nat.reduceAdd, Nat.reduceLeDiff, numR, memR, valR, heapR, updR, intR, decR, extR, slR, segR, thenR, pnR, Int.reduceToNat, Int.reduceAdd, Int.reduceSub, Int.reduceLT, Int.reduceLE, Nat.reduceSub, Nat.reduceMul, Nat.reduceEqDiff, joinBR, hq, plC_0, plC_1, e1, hand, Bool.not_false]
    exact hK
  | false =>
    rw [hbt] at hK
    have h1 : t / 2 ^ k % 2 = 0 := by
      have : ¬ t / 2 ^ k % 2 = 1 := fun h => by rw [hb.1 h] at hbt; cases hbt
      omega
    rw [h1] at hand
    generalize t / 2 ^ k = y at *
    simp (disch := first | assumption | omega | (simp only [szR, plC_len, plC_all] <;> omega) | rfl | decide) only [gen0, gen1, gen2, rulesM, rulesT, litR, bolR, Nat.reduceAdd, Nat.reduceLeDiff, numR, memR, valR, heapR, updR, intR, decR, extR, slR, segR, thenR, pnR, Int.reduceToNat, Int.reduceAdd, Int.reduceSub, Int.reduceLT, Int.reduceLE, Nat.reduceSub, Nat.reduceMul, Nat.reduceEqDiff, joinBR, hq, plC_0, plC_1, e1, hand, Bool.not_false]
    exact hK
theorem Give_spec {w : World} {q n t k : Nat} (hq : w.heap[q]? = some (.cells (plC n t).toArray 82 (0, 0))) (hn : 1 ≤ n ∧ n ≤ 62) (ht : t < 18446744073709551616) (hk : k < n) (hb : t.testBit k = true) {K : Value → World → Prop}
    (hK : ∀ t' w', t' < 18446744073709551616 → (∀ i, i < 64 → t'.testBit i = (t.testBit i && !decide (i = k))) → w'.heap[q]? = some (.cells (plC n t').toArray 82 (0, 0)) → Ext [q] w w' → K (.int .i64 0) w') : callsK Try.prog 15 #[.pointer (some ⟨q, 0, none⟩), .int .i64 (k : Nat)] w K := by
  apply F15_ok
  unfold F15
  refine pnone_spec hq (by omega) ?_
  simp (disch := first | assumption | omega | (simp only [szR, plC_len, plC_all] <;> omega) | rfl | decide) only [gen0, gen1, gen2, rulesM, rulesT, litR, bolR, Nat.reduceAdd, Nat.reduceLeDiff, numR, memR, valR, heapR, updR, intR, decR, extR, slR, segR, thenR, pnR, Int.reduceToNat, Int.reduceAdd, Int.reduceSub, Int.reduceLT, Int.reduceLE, Nat.reduceSub, Nat.reduceMul, Nat.reduceEqDiff, joinBR, hq, plC_0]
  refine Taken_spec hq hn ht hk ?_
  rw [hb]
  have pz : (2 : Nat) ^ k < 18446744073709551616 := Nat.pow_lt_pow_right (a := 2) (n := 64) (by omega) (by omega)
  have s1 : IntKind.u64.wrap (1 * 2 ^ k) = ((2 ^ k : Nat) : Int) := by
    rw [Int.one_mul, show (2 : Int) ^ k = ((2 ^ k : Nat) : Int) by simp]
    exact wrap_u64 (natU pz)
  obtain ⟨r, hr, hrl, hrb⟩ := andNot_u64 (a := ((t : Nat) : Int)) (b := ((2 ^ k : Nat) : Int)) (natU pz) (natU ht)
  rw [Int.toNat_natCast, Int.toNat_natCast] at hrb
  have hset : (plC n t).set 1 (.int .u64 ((r : Nat) : Int)) = plC n r := rfl
  have hrest := hK r (World.upd w.drew q (plC n r)) hrl (fun i hi => by
    rw [hrb i hi, Nat.testBit_two_pow]
    congr 2
    exact decide_eq_decide.2 ⟨fun h => h.symm, fun h => h.symm⟩) (upd_at (w := w.drew) hq) (by (repeat first | assumption | exact Ext.refl | apply Ext.alloc | apply Ext.drew | (refine Ext.updN ?_ ?_; (focus first | omega | (simp only [szR] <;> omega))) | (refine Ext.updI ?_ ?_; (focus (simp; done)))))
  have l0 := lt_of_at hq
  generalize 2 ^ k = q2 at *
  simp (disch := first | assumption | omega | (simp only [szR, plC_len, plC_all] <;> omega) | rfl | decide) only [gen0, gen1, gen2, rulesM, rulesT, litR, bolR, Nat.reduceAdd, Nat.reduceLeDiff, numR, memR, valR, heapR, updR, intR, decR, extR, slR, segR, thenR, pnR, Int.reduceToNat, Int.reduceAdd, Int.reduceSub, Int.reduceLT, Int.reduceLE, Nat.reduceSub, Nat.reduceMul, Nat.reduceEqDiff, hq, plC_1, s1, hr, hset, Bool.not_true]
  exact hrest
theorem Free_spec {w : World} {q n t : Nat} (hq : w.heap[q]? = some (.cells (plC n t).toArray 82 (0, 0))) (hn : 1 ≤ n ∧ n ≤ 62) (ht : t < 18446744073709551616) {K : Value → World → Prop}
    (hK : ∀ w', Ext [] w w' → K (.int .i64 ((n : Nat) - (cntK t 64 : Nat) : Int)) w') : callsK Try.prog 19 #[.pointer (some ⟨q, 0, none⟩)] w K := by
  apply F19_ok
  unfold F19
  refine pnone_spec hq (by omega) ?_
  have hc := cntK_le t 64
  have hwr : IntKind.i64.wrap (((n : Nat) : Int) - ((onesK t 64).length : Nat)) = ((n : Nat) - (cntK t 64 : Nat) : Int) := wrap_i64 ⟨by show _ ≤ ((n : Nat) : Int) - ((cntK t 64 : Nat) : Int); omega, by show ((n : Nat) : Int) - ((cntK t 64 : Nat) : Int) < _; omega⟩
  have hx0 : Ext [] w w.drew := by (repeat first | assumption | exact Ext.refl | apply Ext.alloc | apply Ext.drew | (refine Ext.updN ?_ ?_; (focus first | omega | (simp only [szR] <;> omega))) | (refine Ext.updI ?_ ?_; (focus (simp; done))))
  have hq2 := hx0.at hq (by simp)
  simp (disch := first | assumption | omega | (simp only [szR, plC_len, plC_all] <;> omega) | rfl | decide) only [gen0, gen1, gen2, rulesM, rulesT, litR, bolR, Nat.reduceAdd, Nat.reduceLeDiff, numR, memR, valR, heapR, updR, intR, decR, extR, slR, segR, thenR, pnR, Int.reduceToNat, Int.reduceAdd, Int.reduceSub, Int.reduceLT, Int.reduceLE, Nat.reduceSub, Nat.reduceMul, Nat.reduceEqDiff, hq, plC_0]
  have hA : callsK Try.prog 47 #[.pointer (some ⟨q, 0, none⟩)] w.drew fun v w => pV Try.prog (Builtin.len_ #[38] 3 #[v]) fun v12 => kV Try.prog (Instr.loadAt 3 (.pointer (some ⟨q, 0, none⟩))) w fun v9 w => pV Try.prog (binV .sub 3 (.tmp 9) (.tmp 12) v9 v12) fun v13 => K v13 w := by
    refine all_spec hq2 (by omega) ht fun a c w1 hx1 => ?_
    have k0 := hx1.at hq2 (by simp)
    simp (disch := first | assumption | omega | (simp only [szR, plC_len, plC_all] <;> omega) | rfl | decide) only [gen0, gen1, gen2, rulesM, rulesT, litR, bolR, Nat.reduceAdd, Nat.reduceLeDiff, numR, memR, valR, heapR, updR, intR, decR, extR, slR, segR, thenR, pnR, Int.reduceToNat, Int.reduceAdd, Int.reduceSub, Int.reduceLT, Int.reduceLE, Nat.reduceSub, Nat.reduceMul, Nat.reduceEqDiff, k0, plC_0, hwr]
    exact hK _ (hx0.trans hx1 (by simp))
  refine ⟨?_, ?_⟩
  · refine all_spec hq2 (by omega) ht fun a c w1 hx1 => ?_
    simp (disch := first | assumption | omega | (simp only [szR, plC_len, plC_all] <;> omega) | rfl | decide) only [gen0, gen1, gen2, rulesM, rulesT, litR, bolR, Nat.reduceAdd, Nat.reduceLeDiff, numR, memR, valR, heapR, updR, intR, decR, extR, slR, segR, thenR, pnR, Int.reduceToNat, Int.reduceAdd, Int.reduceSub, Int.reduceLT, Int.reduceLE, Nat.reduceSub, Nat.reduceMul, Nat.reduceEqDiff, hwr]
    exact hK _ (hx0.trans hx1 (by simp))
  · exact hA
end Go.Proofs.Ytfpcflmgipklcaa
