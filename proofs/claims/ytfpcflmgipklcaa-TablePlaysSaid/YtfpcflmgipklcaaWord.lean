/- Entries of page tables as numbers: plain Lean; conditions: those of each theorem. -/
import Derived.Test.YtfpcflmgipklcaaBits
namespace Go.Proofs.Ytfpcflmgipklcaa
open Go.Fx
theorem or_two_pow {x i : Nat} (h : x.testBit i = false) : x ||| 2 ^ i = x + 2 ^ i := by
  have hp := Nat.two_pow_pos i
  have hr : x % 2 ^ i < 2 ^ i := Nat.mod_lt _ hp
  have hq : x / 2 ^ i % 2 = 0 := by
    rw [Nat.testBit_eq_decide_div_mod_eq] at h
    simp at h
    omega
  have e1 : x = 2 ^ i * (x / 2 ^ i) + x % 2 ^ i := (Nat.div_add_mod x (2 ^ i)).symm
  have e2 : x + 2 ^ i = 2 ^ i * (x / 2 ^ i + 1) + x % 2 ^ i := by rw [Nat.mul_add, Nat.mul_one]; omega
  apply Nat.eq_of_testBit_eq
  intro j
  rw [e2, Nat.testBit_or]
  conv => lhs; lhs; rw [e1]
  rw [Nat.testBit_two_pow_mul_add _ hr, Nat.testBit_two_pow_mul_add _ hr, Nat.testBit_two_pow]
  by_cases hj : j < i
  · simp [hj]; omega
  · rw [if_neg hj, if_neg hj]
    generalize x / 2 ^ i = a at hq
    by_cases h0 : j = i
    · subst h0
      simp [Nat.testBit_zero]; omega
    · obtain ⟨d, rfl⟩ : ∃ d, j = i + (d + 1) := ⟨j - i - 1, by omega⟩
      rw [show i + (d + 1) - i = d + 1 by omega, Nat.testBit_succ, Nat.testBit_succ, show (a + 1) / 2 = a / 2 by omega]
      simp
def pos (j : Nat) : Nat := if j < 8 then j else j + 50
/-- the number of an entry's flags, the first k of them, and of its frame. -/
def wordOf (f : Nat → Bool) (n : Nat) : Nat → Nat
  | 0 => n % 17592186044416 * 1024
  | k + 1 => wordOf f n k + if f k then 2 ^ pos k else 0
def wd (f : Nat → Bool) (n : Nat) : Nat := wordOf f n 12
theorem wordOf_lt (f : Nat → Bool) (n : Nat) : ∀ k, k ≤ 8 → ∃ x, x < 2 ^ k ∧ wordOf f n k = x + n % 17592186044416 * 1024
  | 0, _ => ⟨0, by simp, by simp [wordOf]⟩
  | k + 1, h => by
    obtain ⟨x, h1, h2⟩ := wordOf_lt f n k (by omega)
    have e : pos k = k := by unfold pos; rw [if_pos (by omega)]
    refine ⟨x + if f k then 2 ^ k else 0, ?_, ?_⟩
    · rw [Nat.pow_succ]; split <;> omega
    · unfold wordOf; rw [h2, e]; omega
theorem wordOf_lt2 (f : Nat → Bool) (n : Nat) : ∀ k, 8 ≤ k → k ≤ 12 → wordOf f n k < 2 ^ (k + 50)
  | 0, h, _ => by omega
  | k + 1, h, h2 => by
    by_cases hk : k + 1 = 8
    · obtain ⟨x, h3, h4⟩ := wordOf_lt f n 8 (by omega)
      rw [hk, h4]
      have := Nat.mod_lt n (show 17592186044416 > 0 by decide)
      have e : (2 : Nat) ^ (8 + 50) = 288230376151711744 := by decide
      have e8 : (2 : Nat) ^ 8 = 256 := by decide
      omega
    · have ih := wordOf_lt2 f n k (by omega) (by omega)
      have e : pos k = k + 50 := by unfold pos; rw [if_neg (by omega)]
      unfold wordOf
      rw [e, show k + 1 + 50 = (k + 50) + 1 by omega, Nat.pow_succ (m := k + 50)]
      split <;> omega
theorem wordOf_low (f : Nat → Bool) (n k : Nat) (h : k < 12) : (wordOf f n k).testBit (pos k) = false := by
  by_cases h8 : k < 8
  · obtain ⟨x, h1, h2⟩ := wordOf_lt f n k (by omega)
    have e : pos k = k := by unfold pos; rw [if_pos h8]
    rw [e, h2, Nat.add_comm, show n % 17592186044416 * 1024 = 2 ^ k * (2 * (n % 17592186044416 * 2 ^ (9 - k))) by
      rw [show (1024 : Nat) = 2 ^ k * (2 * 2 ^ (9 - k)) by rw [show 2 * 2 ^ (9 - k) = 2 ^ (10 - k) by rw [show 10 - k = (9 - k) + 1 by omega, Nat.pow_succ, Nat.mul_comm], ← Nat.pow_add, show k + (10 - k) = 10 by omega]; ]
      rw [Nat.mul_left_comm, Nat.mul_left_comm 2]]
    rw [Nat.testBit_two_pow_mul_add _ h1, if_neg (by omega), Nat.sub_self, Nat.testBit_zero]
    simp
  · have e : pos k = k + 50 := by unfold pos; rw [if_neg h8]
    rw [e]
    exact Nat.testBit_lt_two_pow (wordOf_lt2 f n k (by omega) (by omega))
/-- the same by or. -/
theorem wordOf_or (f : Nat → Bool) (n k : Nat) (h : k < 12) : wordOf f n k ||| 2 ^ pos k = wordOf f n k + 2 ^ pos k := or_two_pow (wordOf_low f n k h)
theorem wd_sum (f : Nat → Bool) (n : Nat) : wd f n = n % 17592186044416 * 1024 + (f 0).toNat + (f 1).toNat * 2 + (f 2).toNat * 4 + (f 3).toNat * 8 + (f 4).toNat * 16 + (f 5).toNat * 32 + (f 6).toNat * 64 + (f 7).toNat * 128 +
    (f 8).toNat * 288230376151711744 + (f 9).toNat * 576460752303423488 + (f 10).toNat * 1152921504606846976 + (f 11).toNat * 2305843009213693952 := by
  have h : ∀ (b : Bool) (x : Nat), (if b then x else 0) = b.toNat * x := by intro b x; cases b <;> simp
  unfold wd
  simp only [wordOf, h, pos, Nat.reduceLT, if_true, if_false, Nat.reduceAdd, Nat.reducePow, Nat.mul_one]
theorem wordOf_small (f : Nat → Bool) (n k : Nat) (h : k ≤ 12) : wordOf f n k < 4611686018427387904 := by
  by_cases h8 : k ≤ 8
  · obtain ⟨x, h3, h4⟩ := wordOf_lt f n k h8
    have := Nat.mod_lt n (show 17592186044416 > 0 by decide)
    have h9 : (2 : Nat) ^ k ≤ 2 ^ 8 := Nat.pow_le_pow_right (by omega) h8
    have e8 : (2 : Nat) ^ 8 = 256 := by decide
    omega
  · have h3 := wordOf_lt2 f n k (by omega) h
    have h9 : (2 : Nat) ^ (k + 50) ≤ 2 ^ 62 := Nat.pow_le_pow_right (by omega) (by omega)
    have e8 : (2 : Nat) ^ 62 = 4611686018427387904 := by decide
    omega
theorem wd_lt (f : Nat → Bool) (n : Nat) : wd f n < 4611686018427387904 := wordOf_small f n 12 (Nat.le_refl _)
/-- an entry's flags out of a number. -/
def fl (x : Nat) (j : Nat) : Bool := decide (x / 2 ^ pos j % 2 = 1)
def fr (x : Nat) : Nat := x / 1024 % 17592186044416
theorem fr_lt (x : Nat) : fr x < 17592186044416 := Nat.mod_lt _ (by decide)
theorem fr_wd (f : Nat → Bool) (n : Nat) : fr (wd f n) = n % 17592186044416 := by
  unfold fr
  rw [wd_sum]
  have hb : ∀ b : Bool, b.toNat ≤ 1 := Bool.toNat_le
  have := hb (f 0); have := hb (f 1); have := hb (f 2); have := hb (f 3); have := hb (f 4); have := hb (f 5); have := hb (f 6); have := hb (f 7)
  have := hb (f 8); have := hb (f 9); have := hb (f 10); have := hb (f 11)
  omega
theorem fl_wd (f : Nat → Bool) (n j : Nat) (h : j < 12) : fl (wd f n) j = f j := by
  unfold fl
  rw [wd_sum]
  have hb : ∀ b : Bool, b.toNat ≤ 1 := Bool.toNat_le
  have := hb (f 0); have := hb (f 1); have := hb (f 2); have := hb (f 3); have := hb (f 4); have := hb (f 5); have := hb (f 6); have := hb (f 7)
  have := hb (f 8); have := hb (f 9); have := hb (f 10); have := hb (f 11)
  have hd : ∀ (b : Bool) (x : Nat), x = b.toNat → decide (x = 1) = b := by intro b x hx; subst hx; cases b <;> rfl
  rcases (by omega : j = 0 ∨ j = 1 ∨ j = 2 ∨ j = 3 ∨ j = 4 ∨ j = 5 ∨ j = 6 ∨ j = 7 ∨ j = 8 ∨ j = 9 ∨ j = 10 ∨ j = 11) with rfl | rfl | rfl | rfl | rfl | rfl | rfl | rfl | rfl | rfl | rfl | rfl
  all_goals
    apply hd
    simp only [pos, Nat.reduceLT, if_true, if_false, Nat.reduceAdd, Nat.reducePow]
    omega
theorem fl_bit (x j : Nat) : fl x j = x.testBit (pos j) := by
  unfold fl
  rw [Nat.testBit_eq_decide_div_mod_eq]
end Go.Proofs.Ytfpcflmgipklcaa
