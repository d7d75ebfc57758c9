/- Bits counted, plainly: a number as digits, added by pairs; conditions: those of each theorem. -/
import Derived.Test.YtgnibcaflidjmaaMaps
namespace Go.Proofs.Ytgnibcaflidjmaa
open Go.Fx
/-- the bits of a number, counted. -/
def pcN : Nat → Nat → Nat
  | 0, _ => 0
  | n + 1, x => x % 2 + pcN n (x / 2)
theorem pcN_or (n : Nat) : ∀ a b : Nat, pcN n (a ||| b) + pcN n (a &&& b) = pcN n a + pcN n b := by
  induction n with
  | zero => intro a b; rfl
  | succ n ih =>
    intro a b
    have h1 : (a ||| b) / 2 = a / 2 ||| b / 2 := Nat.or_div_two
    have h2 : (a &&& b) / 2 = a / 2 &&& b / 2 := Nat.and_div_two
    have h3 : (a ||| b) % 2 + (a &&& b) % 2 = a % 2 + b % 2 := by
      have e1 := Nat.or_mod_two_pow (a := a) (b := b) (n := 1)
      have e2 := Nat.and_mod_two_pow (a := a) (b := b) (n := 1)
      rw [Nat.pow_one] at e1 e2
      rw [e1, e2]
      rcases Nat.mod_two_eq_zero_or_one a with h | h <;> rcases Nat.mod_two_eq_zero_or_one b with h' | h' <;> rw [h, h'] <;> rfl
    simp only [pcN, h1, h2]
    have := ih (a / 2) (b / 2)
    omega
/-- the mask of every second digit of k bits, n of them. -/
def msk (k : Nat) : Nat → Nat
  | 0 => 0
  | n + 1 => (2 ^ k - 1) + 2 ^ (2 * k) * msk k n
theorem and_low {k x m : Nat} : x &&& ((2 ^ k - 1) + 2 ^ (2 * k) * m) = x % 2 ^ k + 2 ^ (2 * k) * (x / 2 ^ (2 * k) &&& m) := by
  apply Nat.eq_of_testBit_eq
  intro i
  have hk : 2 ^ k ≤ 2 ^ (2 * k) := Nat.pow_le_pow_right (by omega) (by omega)
  have hp : 0 < 2 ^ k := Nat.two_pow_pos k
  have l1 : 2 ^ k - 1 < 2 ^ (2 * k) := by omega
  have l2 : x % 2 ^ k < 2 ^ (2 * k) := Nat.lt_of_lt_of_le (Nat.mod_lt _ hp) hk
  rw [Nat.testBit_and, Nat.add_comm (2 ^ k - 1), Nat.add_comm (x % 2 ^ k), Nat.testBit_two_pow_mul_add _ l1, Nat.testBit_two_pow_mul_add _ l2]
  by_cases h : i < 2 * k
  · rw [if_pos h, if_pos h, Nat.testBit_mod_two_pow, Nat.testBit_two_pow_sub_one, Bool.and_comm]
  · rw [if_neg h, if_neg h, Nat.testBit_and, Nat.testBit_div_two_pow]
    congr 2
    omega

/-- the digits (of k bits) of a number, added by pairs: digits of 2*k bits. -/
def pairs (k : Nat) : Nat → Nat → Nat
  | 0, _ => 0
  | n + 1, x => (x % 2 ^ k + x / 2 ^ k % 2 ^ k) + 2 ^ (2 * k) * pairs k n (x / 2 ^ (2 * k))
theorem stage (k : Nat) : ∀ (n x : Nat), (x / 2 ^ k &&& msk k n) + (x &&& msk k n) = pairs k n x := by
  intro n
  induction n with
  | zero => intro x; simp [msk, pairs]
  | succ n ih =>
    intro x
    have h1 := and_low (k := k) (x := x) (m := msk k n)
    have h2 := and_low (k := k) (x := x / 2 ^ k) (m := msk k n)
    have h3 := ih (x / 2 ^ (2 * k))
    have e : x / 2 ^ k / 2 ^ (2 * k) = x / 2 ^ (2 * k) / 2 ^ k := by rw [Nat.div_div_eq_div_mul, Nat.div_div_eq_div_mul, Nat.mul_comm]
    rw [e] at h2
    simp only [msk, pairs]
    rw [h1, h2, ← h3, Nat.mul_add]
    omega
/-- the sum of n digits of k bits. -/
def dsum (k : Nat) : Nat → Nat → Nat
  | 0, _ => 0
  | n + 1, x => x % 2 ^ k + dsum k n (x / 2 ^ k)
theorem pairs_dsum (k : Nat) (hk : 0 < k) : ∀ (n x : Nat), dsum (2 * k) n (pairs k n x) = dsum k (2 * n) x := by
  intro n
  induction n with
  | zero => intro x; rfl
  | succ n ih =>
    intro x
    have hp : 0 < 2 ^ k := Nat.two_pow_pos k
    have hp2 : 2 ^ (2 * k) = 2 ^ k * 2 ^ k := by rw [← Nat.pow_add]; congr 1; omega
    have h2k : 2 ≤ 2 ^ k := by
      have := Nat.pow_le_pow_right (n := 2) (by omega) hk
      simpa using this
    have a1 := Nat.mod_lt x hp
    have a2 := Nat.mod_lt (x / 2 ^ k) hp
    have hlt : x % 2 ^ k + x / 2 ^ k % 2 ^ k < 2 ^ (2 * k) := by
      rw [hp2]
      have : 2 * 2 ^ k ≤ 2 ^ k * 2 ^ k := Nat.mul_le_mul_right _ h2k
      omega
    have hpp : 0 < 2 ^ (2 * k) := Nat.two_pow_pos _
    have e1 : pairs k (n + 1) x % 2 ^ (2 * k) = x % 2 ^ k + x / 2 ^ k % 2 ^ k := by
      rw [pairs, Nat.add_mul_mod_self_left, Nat.mod_eq_of_lt hlt]
    have e2 : pairs k (n + 1) x / 2 ^ (2 * k) = pairs k n (x / 2 ^ (2 * k)) := by
      rw [pairs, Nat.add_mul_div_left _ _ hpp, Nat.div_eq_of_lt hlt, Nat.zero_add]
    have e3 : x / 2 ^ k / 2 ^ k = x / 2 ^ (2 * k) := by rw [Nat.div_div_eq_div_mul, hp2]
    rw [dsum, e1, e2, ih]
    show _ = dsum k (2 * n + 2) x
    rw [dsum, dsum, e3]
    omega
theorem dsum_pc : ∀ n x, dsum 1 n x = pcN n x := by
  intro n
  induction n with
  | zero => intro x; rfl
  | succ n ih => intro x; rw [dsum, pcN, ih]
end Go.Proofs.Ytgnibcaflidjmaa
