/- Fields of words, whatever they are; conditions: those of each theorem. -/
import Derived.Test.YtobkjnmdbkieeaaDoorField
namespace Go.Proofs.YtobkjnmdbkieeaaDoor
open Go.Fx
set_option maxRecDepth 100000
set_option linter.unusedSimpArgs false
set_option linter.unusedVariables false
/-- a word with another field. -/
def putB (x a k v : Nat) : Nat := x / 2 ^ (a + k) * 2 ^ (a + k) + v % 2 ^ k * 2 ^ a + x % 2 ^ a
theorem putB_or (x a k v : Nat) : putB x a k v = 2 ^ (a + k) * (x / 2 ^ (a + k)) ||| (2 ^ a * (v % 2 ^ k) ||| x % 2 ^ a) := by
  have hL : x % 2 ^ a < 2 ^ a := Nat.mod_lt _ (Nat.two_pow_pos _)
  have hv : v % 2 ^ k < 2 ^ k := Nat.mod_lt _ (Nat.two_pow_pos _)
  have hlt : 2 ^ a * (v % 2 ^ k) + x % 2 ^ a < 2 ^ (a + k) := by
    rw [Nat.pow_add]
    have : 2 ^ a * (v % 2 ^ k) + 2 ^ a ≤ 2 ^ a * 2 ^ k := by
      rw [← Nat.mul_succ]
      exact Nat.mul_le_mul_left _ hv
    omega
  rw [← Nat.two_pow_add_eq_or_of_lt hL, ← Nat.two_pow_add_eq_or_of_lt hlt]
  unfold putB
  rw [Nat.mul_comm (2 ^ (a + k)), Nat.mul_comm (2 ^ a)]
  omega
theorem putB_lt {x a k v : Nat} (hx : x < 18446744073709551616) (h : a + k ≤ 64) : putB x a k v < 18446744073709551616 := by
  have e64 : (18446744073709551616 : Nat) = 2 ^ 64 := by decide
  rw [e64] at hx ⊢
  rw [putB_or]
  have h1 : 2 ^ (a + k) * (x / 2 ^ (a + k)) < 2 ^ 64 := Nat.lt_of_le_of_lt (Nat.mul_div_le _ _) hx
  have hp : 2 ^ a * (v % 2 ^ k) < 2 ^ 64 := by
    refine Nat.lt_of_lt_of_le (Nat.mul_lt_mul_of_pos_left (Nat.mod_lt _ (Nat.two_pow_pos _)) (Nat.two_pow_pos _)) ?_
    rw [← Nat.pow_add]
    exact Nat.pow_le_pow_right (by omega) h
  have h2 : x % 2 ^ a < 2 ^ 64 := Nat.lt_of_le_of_lt (Nat.mod_le _ _) hx
  exact Nat.or_lt_two_pow h1 (Nat.or_lt_two_pow hp h2)
theorem fPutG_spec {w : World} {x v : Nat} {a k : Int} (ha : 0 ≤ a) (hk : 0 < k ∧ k < 64) (hak : a + k ≤ 64) (hx64 : x < 18446744073709551616) (hv : v < 18446744073709551616) {K : Value → World → Prop}
    (hK : ∀ w', Ext [] w w' → K (.int .u64 ((putB x a.toNat k.toNat v : Nat) : Int)) w') : callsK Tryd.prog 19 #[.int .u64 x, .int .i64 a, .int .i64 k, .int .u64 v] w K := by
  have hmod := Nat.and_two_pow_sub_one_eq_mod v k.toNat
  have hpl := pow64 (i := k.toNat) (by omega)
  have hpa := pow64 (i := a.toNat) (by omega)
  have hp := Nat.two_pow_pos k.toNat
  have hpp : 2 ^ k.toNat * 2 ^ a.toNat ≤ 18446744073709551616 := by
    rw [← Nat.pow_add]
    exact Nat.pow_le_pow_right (n := 2) (by omega) (show k.toNat + a.toNat ≤ 64 by omega)
  have hm : (2 ^ k.toNat - 1) * 2 ^ a.toNat < 18446744073709551616 := by
    refine Nat.lt_of_lt_of_le ?_ hpp
    exact Nat.mul_lt_mul_of_pos_right (by omega) (Nat.two_pow_pos _)
  have hmv : v % 2 ^ k.toNat * 2 ^ a.toNat < 18446744073709551616 := by
    refine Nat.lt_of_lt_of_le ?_ hpp
    exact Nat.mul_lt_mul_of_pos_right (Nat.mod_lt _ hp) (Nat.two_pow_pos _)
  have hs1 := mulP (v := 2 ^ k.toNat - 1) a.toNat hm
  have hs2 := mulP (v := v % 2 ^ k.toNat) a.toNat hmv
  obtain ⟨r, hr, hr64, hrb⟩ := andNot_u64 (a := (x : Int)) (b := (((2 ^ k.toNat - 1) * 2 ^ a.toNat : Nat) : Int)) (by omega) (by omega)
  have hand := and_u64 (a := (v : Int)) (b := ((2 ^ k.toNat - 1 : Nat) : Int)) (by omega) (by omega)
  simp only [Int.toNat_natCast, hmod] at hand
  have horu := or_u64 (a := (r : Int)) (b := ((v % 2 ^ k.toNat * 2 ^ a.toNat : Nat) : Int)) (by omega) (by omega)
  simp only [Int.toNat_natCast] at horu
  have hko : k.toNat ≤ 64 := by omega
  have e : r ||| v % 2 ^ k.toNat * 2 ^ a.toNat = putB x a.toNat k.toNat v := by
    rw [putB_or]
    apply Nat.eq_of_testBit_eq
    intro i
    by_cases hi : i < 64
    · simp only [Nat.testBit_or, hrb i hi, Int.toNat_natCast]
      rw [Nat.mul_comm (2 ^ k.toNat - 1), Nat.mul_comm (v % 2 ^ k.toNat)]
      simp only [Nat.testBit_two_pow_mul, Nat.testBit_two_pow_sub_one, Nat.testBit_mod_two_pow, Nat.testBit_div_two_pow]
      by_cases h1 : i < a.toNat
      · have q1 : ¬ i ≥ a.toNat := by omega
        have q2 : ¬ i ≥ a.toNat + k.toNat := by omega
        simp [h1, q1, q2]
      · by_cases h2 : i < a.toNat + k.toNat
        · have q1 : i ≥ a.toNat := by omega
          have q2 : ¬ i ≥ a.toNat + k.toNat := by omega
          have q3 : i - a.toNat < k.toNat := by omega
          simp [h1, q1, q2, q3]
        · have q1 : i ≥ a.toNat := by omega
          have q2 : i ≥ a.toNat + k.toNat := by omega
          have q3 : ¬ i - a.toNat < k.toNat := by omega
          simp [h1, q1, q2, q3, Nat.sub_add_cancel q2]
    · have p : 2 ^ 64 ≤ 2 ^ i := Nat.pow_le_pow_right (by omega) (by omega)
      have e64 : (18446744073709551616 : Nat) = 2 ^ 64 := by decide
      have l1 : r ||| v % 2 ^ k.toNat * 2 ^ a.toNat < 2 ^ 64 := Nat.or_lt_two_pow (by omega) (by omega)
      have l2 := putB_lt (x := x) (a := a.toNat) (k := k.toNat) (v := v) hx64 (by omega)
      rw [putB_or] at l2
      rw [Nat.testBit_lt_two_pow (by omega), Nat.testBit_lt_two_pow (by omega)]
  rw [e] at horu
  apply F19_ok
  unfold F19
  simp (disch := first | assumption | omega | (simp only [szR] <;> omega) | rfl | decide) only [gen0, gen1, gen2, rulesC, litR, bolR, Nat.reduceAdd, Nat.reduceLeDiff, numR, memR, valR, heapR, updR, intR, decR, extR, slR, segR, thenR, pnR, Int.reduceToNat, Int.reduceAdd, Int.reduceSub, Int.reduceLT, Int.reduceLE, Nat.reduceSub, Nat.reduceMul, Nat.reduceEqDiff]
  refine fmay_spec (by omega) ?_
  simp (disch := first | assumption | omega | (simp only [szR] <;> omega) | rfl | decide) only [gen0, gen1, gen2, rulesC, litR, bolR, Nat.reduceAdd, Nat.reduceLeDiff, numR, memR, valR, heapR, updR, intR, decR, extR, slR, segR, thenR, pnR, Int.reduceToNat, Int.reduceAdd, Int.reduceSub, Int.reduceLT, Int.reduceLE, Nat.reduceSub, Nat.reduceMul, Nat.reduceEqDiff]
  refine fMask_spec hk ?_
  generalize 2 ^ k.toNat - 1 = mk at hs1 hr hand hm
  generalize v % 2 ^ k.toNat = vk at hs2 hand horu hmv
  generalize mk * 2 ^ a.toNat = q1 at hs1 hr hm
  generalize vk * 2 ^ a.toNat = q2 at hs2 horu hmv
  generalize putB x a.toNat k.toNat v = pb at horu hK
  simp (disch := first | assumption | omega | (simp only [szR] <;> omega) | rfl | decide) only [gen0, gen1, gen2, rulesC, litR, bolR, Nat.reduceAdd, Nat.reduceLeDiff, numR, memR, valR, heapR, updR, intR, decR, extR, slR, segR, thenR, pnR, Int.reduceToNat, Int.reduceAdd, Int.reduceSub, Int.reduceLT, Int.reduceLE, Nat.reduceSub, Nat.reduceMul, Nat.reduceEqDiff, hs1, hr, hand, hs2, horu]
  exact hK _ (by (repeat first | assumption | exact Ext.refl | apply Ext.alloc | apply Ext.drew | (refine Ext.updN ?_ ?_; (focus first | omega | (simp only [szR] <;> omega))) | (refine Ext.updI ?_ ?_; (focus (simp; done)))))
/-- a number with a sign as a word. -/
def un (x : Int) : Nat := (x % 18446744073709551616).toNat
theorem un_lt (x : Int) : un x < 18446744073709551616 := by unfold un; omega
theorem un_nn {x : Int} (h : 0 ≤ x ∧ x < 18446744073709551616) : un x = x.toNat := by unfold un; omega
theorem un_neg {x : Int} (h : -18446744073709551616 ≤ x ∧ x < 0) : (un x : Int) = x + 18446744073709551616 := by unfold un; omega
theorem wrap_un (x : Int) : IntKind.u64.wrap x = un x := by
  unfold un
  simp [IntKind.wrap, IntKind.signed, IntKind.bits]
  omega
theorem wrap_i64N {x : Nat} (h : x < 18446744073709551616) : IntKind.i64.wrap (x : Int) = if x < 9223372036854775808 then (x : Int) else (x : Int) - 18446744073709551616 := by
  split
  · exact wrap_i64 ⟨by omega, by omega⟩
  · simp [IntKind.wrap, IntKind.signed, IntKind.bits]
    omega
/-- a number of b bits with a sign, as a word. -/
def signN (x b : Nat) : Nat := if x % 2 ^ b < 2 ^ (b - 1) then x % 2 ^ b else x % 2 ^ b + (18446744073709551616 - 2 ^ b)
theorem signN_lt {x b : Nat} (h : 1 ≤ b ∧ b ≤ 64) : signN x b < 18446744073709551616 := by
  have h1 : x % 2 ^ b < 2 ^ b := Nat.mod_lt _ (Nat.two_pow_pos _)
  have h2 : (2 : Nat) ^ b ≤ 2 ^ 64 := Nat.pow_le_pow_right (by omega) h.2
  have e64 : (18446744073709551616 : Nat) = 2 ^ 64 := by decide
  unfold signN
  split <;> omega
theorem signW {x b : Nat} (h : 1 ≤ b ∧ b ≤ 64) : IntKind.u64.wrap ((IntKind.i64.wrap (IntKind.u64.wrap ((x : Int) * 2 ^ (64 - b)))).fdiv (2 ^ (64 - b))) = (signN x b : Nat) := by
  have e1 : (x : Int) * 2 ^ (64 - b) = ((x * 2 ^ (64 - b) : Nat) : Int) := by simp
  have e64 : (18446744073709551616 : Nat) = 2 ^ b * 2 ^ (64 - b) := by
    rw [← Nat.pow_add, show b + (64 - b) = 64 by omega]
  have e63 : (9223372036854775808 : Nat) = 2 ^ (b - 1) * 2 ^ (64 - b) := by
    rw [← Nat.pow_add, show b - 1 + (64 - b) = 63 by omega]
  have eb : (2 : Nat) ^ b = 2 * 2 ^ (b - 1) := by
    rw [← Nat.pow_succ']
    congr 1
    omega
  have hu : un ((x * 2 ^ (64 - b) : Nat) : Int) = x % 2 ^ b * 2 ^ (64 - b) := by
    have : un ((x * 2 ^ (64 - b) : Nat) : Int) = (x * 2 ^ (64 - b)) % 18446744073709551616 := by unfold un; omega
    rw [this, e64, Nat.mul_mod_mul_right]
  rw [e1, wrap_un ((x * 2 ^ (64 - b) : Nat) : Int), hu]
  have hy : x % 2 ^ b < 2 ^ b := Nat.mod_lt _ (Nat.two_pow_pos _)
  have hg := Nat.two_pow_pos (64 - b)
  have hh := Nat.two_pow_pos (b - 1)
  unfold signN
  have hgI : ((2 : Int) ^ (64 - b)) = ((2 ^ (64 - b) : Nat) : Int) := by simp
  rw [hgI]
  generalize x % 2 ^ b = y at *
  generalize 2 ^ (64 - b) = g at *
  generalize 2 ^ (b - 1) = hf at *
  generalize 2 ^ b = B at *
  have hlt : y * g < 18446744073709551616 := by rw [e64]; exact Nat.mul_lt_mul_of_pos_right hy hg
  rw [wrap_i64N hlt]
  have hBl : B ≤ B * g := Nat.le_mul_of_pos_right _ hg
  by_cases hc : y < hf
  · have l1 : y * g < hf * g := Nat.mul_lt_mul_of_pos_right hc hg
    have l2 : y ≤ y * g := Nat.le_mul_of_pos_right _ hg
    rw [if_pos (by omega), if_pos hc]
    rw [Int.fdiv_eq_ediv_of_nonneg _ (by omega)]
    have : ((y * g : Nat) : Int) / (g : Int) = y := by
      rw [Int.natCast_mul]
      exact Int.mul_ediv_cancel _ (by omega)
    rw [this]
    exact wrap_u64 ⟨by omega, by omega⟩
  · have l1 : hf * g ≤ y * g := Nat.mul_le_mul_right _ (by omega)
    rw [if_neg (by omega), if_neg hc]
    have e2 : ((y * g : Nat) : Int) - 18446744073709551616 = ((y : Int) - B) * g := by
      rw [Int.sub_mul, ← Int.natCast_mul, ← Int.natCast_mul, ← e64]
      rfl
    rw [e2, Int.fdiv_eq_ediv_of_nonneg _ (by omega), Int.mul_ediv_cancel _ (by omega)]
    rw [wrap_un]
    have := un_neg (x := (y : Int) - B) ⟨by omega, by omega⟩
    omega
theorem SignG_spec {w : World} {x b : Nat} (hb : 1 ≤ b ∧ b ≤ 64) {K : Value → World → Prop} (hK : K (.int .u64 (signN x b : Nat)) w) : callsK Tryd.prog 41 #[.int .u64 (x : Nat), .int .i64 (b : Nat)] w K := by
  apply F41_ok
  unfold F41
  have e1 : (64 : Int) - (b : Nat) = ((64 - b : Nat) : Int) := by omega
  have hw := signW (x := x) hb
  simp (disch := first | assumption | omega | (simp only [szR] <;> omega) | rfl | decide) only [gen0, gen1, gen2, rulesC, litR, bolR, Nat.reduceAdd, Nat.reduceLeDiff, numR, memR, valR, heapR, updR, intR, decR, extR, slR, segR, thenR, pnR, Int.reduceToNat, Int.reduceAdd, Int.reduceSub, Int.reduceLT, Int.reduceLE, Nat.reduceSub, Nat.reduceMul, Nat.reduceEqDiff, joinBR, e1]
  rw [hw]
  exact hK
def fitsS (x : Int) (b : Nat) : Bool := decide (-((2 ^ (b - 1) : Nat) : Int) ≤ x ∧ x < ((2 ^ (b - 1) : Nat) : Int))
theorem signN_fits {x : Int} {b : Nat} (hb : 1 ≤ b ∧ b ≤ 64) (hx : -9223372036854775808 ≤ x ∧ x < 9223372036854775808) : decide (((signN (un x) b : Nat) : Int) = (un x : Nat)) = fitsS x b := by
  have e64 : (18446744073709551616 : Nat) = 2 ^ b * 2 ^ (64 - b) := by
    rw [← Nat.pow_add, show b + (64 - b) = 64 by omega]
  have e63 : (9223372036854775808 : Nat) = 2 ^ (b - 1) * 2 ^ (64 - b) := by
    rw [← Nat.pow_add, show b - 1 + (64 - b) = 63 by omega]
  have eb : (2 : Nat) ^ b = 2 * 2 ^ (b - 1) := by
    rw [← Nat.pow_succ']
    congr 1
    omega
  have hg := Nat.two_pow_pos (64 - b)
  have hh := Nat.two_pow_pos (b - 1)
  have hB := Nat.two_pow_pos b
  have hy : un x % 2 ^ b < 2 ^ b := Nat.mod_lt _ (Nat.two_pow_pos _)
  have hdm := Nat.div_add_mod (un x) (2 ^ b)
  unfold signN fitsS
  generalize 2 ^ (64 - b) = g at *
  generalize 2 ^ (b - 1) = hf at *
  generalize 2 ^ b = B at *
  have hBl : B ≤ B * g := Nat.le_mul_of_pos_right _ hg
  have hhl : hf ≤ hf * g := Nat.le_mul_of_pos_right _ hg
  apply decide_eq_decide.2
  by_cases hn : 0 ≤ x
  · have hu := un_nn (x := x) ⟨hn, by omega⟩
    by_cases hs : x < hf
    · have hm : un x % B = un x := Nat.mod_eq_of_lt (by omega)
      rw [hm, if_pos (by omega)]
      constructor
      · intro _; omega
      · intro _; rfl
    · constructor
      · intro h
        exfalso
        split at h
        · omega
        · omega
      · intro h; omega
  · have hu := un_neg (x := x) ⟨by omega, by omega⟩
    have hub : ∃ q : Nat, (un x : Int) = x + B * q := ⟨g, by rw [hu]; omega⟩
    by_cases hs : -(hf : Int) ≤ x
    · have hm : un x % B = un x - (18446744073709551616 - B) := by
        have hr : un x = (un x - (18446744073709551616 - B)) + B * (g - 1) := by
          rw [Nat.mul_sub, Nat.mul_one, ← e64]
          omega
        rw [hr, Nat.add_mul_mod_self_left, Nat.mod_eq_of_lt (by omega)]
        omega
      rw [hm, if_neg (by omega)]
      constructor
      · intro _; omega
      · intro _; omega
    · constructor
      · intro h
        exfalso
        split at h
        · omega
        · omega
      · intro h; omega
theorem FitsS_spec {w : World} {x : Int} {b : Nat} (hb : 1 ≤ b ∧ b ≤ 64) (hx : -9223372036854775808 ≤ x ∧ x < 9223372036854775808) {K : Value → World → Prop} (hK : K (.bool (fitsS x b)) w) : callsK Tryd.prog 18 #[.int .i64 x, .int .i64 (b : Nat), .bool true] w K := by
  apply F18_ok
  unfold F18
  have hw := wrap_un x
  have hl := un_lt x
  simp (disch := first | assumption | omega | (simp only [szR] <;> omega) | rfl | decide) only [gen0, gen1, gen2, rulesC, litR, bolR, Nat.reduceAdd, Nat.reduceLeDiff, numR, memR, valR, heapR, updR, intR, decR, extR, slR, segR, thenR, pnR, Int.reduceToNat, Int.reduceAdd, Int.reduceSub, Int.reduceLT, Int.reduceLE, Nat.reduceSub, Nat.reduceMul, Nat.reduceEqDiff, joinBR, hw]
  refine SignG_spec hb ?_
  have hs := signN_fits hb hx
  have hl2 := signN_lt (x := un x) hb
  simp (disch := first | assumption | omega | (simp only [szR] <;> omega) | rfl | decide) only [gen0, gen1, gen2, rulesC, litR, bolR, Nat.reduceAdd, Nat.reduceLeDiff, numR, memR, valR, heapR, updR, intR, decR, extR, slR, segR, thenR, pnR, Int.reduceToNat, Int.reduceAdd, Int.reduceSub, Int.reduceLT, Int.reduceLE, Nat.reduceSub, Nat.reduceMul, Nat.reduceEqDiff, hw]
  rw [hs]
  exact hK
def fitsU (x : Int) (b : Nat) : Bool := decide (0 ≤ x ∧ x < ((2 ^ b : Nat) : Int))
theorem FitsU_spec {w : World} {x : Int} {b : Nat} (hb : 1 ≤ b ∧ b ≤ 63) (hx : -9223372036854775808 ≤ x ∧ x < 9223372036854775808) {K : Value → World → Prop} (hK : K (.bool (fitsU x b)) w) : callsK Tryd.prog 18 #[.int .i64 x, .int .i64 (b : Nat), .bool false] w K := by
  apply F18_ok
  unfold F18
  have hw := wrap_un x
  have hl := un_lt x
  by_cases hn : 0 ≤ x
  · simp (disch := first | assumption | omega | (simp only [szR] <;> omega) | rfl | decide) only [gen0, gen1, gen2, rulesC, litR, bolR, Nat.reduceAdd, Nat.reduceLeDiff, numR, memR, valR, heapR, updR, intR, decR, extR, slR, segR, thenR, pnR, Int.reduceToNat, Int.reduceAdd, Int.reduceSub, Int.reduceLT, Int.reduceLE, Nat.reduceSub, Nat.reduceMul, Nat.reduceEqDiff, joinBR, hw]
    refine fMask_spec (k := (b : Nat)) (by omega) ?_
    rw [Int.toNat_natCast]
    have hpl := pow64 (i := b) (by omega)
    have hp := Nat.two_pow_pos b
    obtain ⟨r, hr, hr64, hrb⟩ := andNot_u64 (a := ((un x : Nat) : Int)) (b := ((2 ^ b - 1 : Nat) : Int)) (by omega) (by omega)
    have hfin : decide ((r : Int) = 0) = fitsU x b := by
      have hu := un_nn (x := x) ⟨hn, by omega⟩
      have hrx : r = un x / 2 ^ b * 2 ^ b := by
        apply Nat.eq_of_testBit_eq
        intro i
        by_cases hi : i < 64
        · rw [hrb i hi, Int.toNat_natCast, Int.toNat_natCast, Nat.mul_comm, Nat.testBit_two_pow_mul, Nat.testBit_two_pow_sub_one, Nat.testBit_div_two_pow]
          by_cases h1 : i < b
          · have : ¬ i ≥ b := by omega
            simp [h1, this]
          · have : i ≥ b := by omega
            simp [h1, this]
        · have p : 2 ^ 64 ≤ 2 ^ i := Nat.pow_le_pow_right (by omega) (by omega)
          have : un x / 2 ^ b * 2 ^ b ≤ un x := Nat.div_mul_le_self _ _
          rw [Nat.testBit_lt_two_pow (by omega), Nat.testBit_lt_two_pow (by omega)]
      unfold fitsU
      apply decide_eq_decide.2
      constructor
      · intro h
        refine ⟨hn, ?_⟩
        have h0 : un x / 2 ^ b * 2 ^ b = 0 := by omega
        rcases Nat.mul_eq_zero.1 h0 with h1 | h1
        · have := Nat.lt_of_div_eq_zero hp h1
          omega
        · omega
      · intro h
        have : un x / 2 ^ b = 0 := Nat.div_eq_of_lt (by omega)
        rw [hrx, this]
        simp
    generalize 2 ^ b - 1 = m at *
    simp (disch := first | assumption | omega | (simp only [szR] <;> omega) | rfl | decide) only [gen0, gen1, gen2, rulesC, litR, bolR, Nat.reduceAdd, Nat.reduceLeDiff, numR, memR, valR, heapR, updR, intR, decR, extR, slR, segR, thenR, pnR, Int.reduceToNat, Int.reduceAdd, Int.reduceSub, Int.reduceLT, Int.reduceLE, Nat.reduceSub, Nat.reduceMul, Nat.reduceEqDiff, joinBR, hw, hr]
    rw [hfin]
    exact hK
  · have hf : fitsU x b = false := by
      unfold fitsU
      exact decide_eq_false (by omega)
    rw [hf] at hK
    simp (disch := first | assumption | omega | (simp only [szR] <;> omega) | rfl | decide) only [gen0, gen1, gen2, rulesC, litR, bolR, Nat.reduceAdd, Nat.reduceLeDiff, numR, memR, valR, heapR, updR, intR, decR, extR, slR, segR, thenR, pnR, Int.reduceToNat, Int.reduceAdd, Int.reduceSub, Int.reduceLT, Int.reduceLE, Nat.reduceSub, Nat.reduceMul, Nat.reduceEqDiff, joinBR]
    exact hK
end Go.Proofs.YtobkjnmdbkieeaaDoor
