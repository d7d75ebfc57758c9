/-
  Bits of numbers: masks and shifts as division and remainder; conditions: those of each theorem.
-/
import Derived.Test.YtlklhempbpphhaaOps
namespace Go.Fx
theorem wrap_small {k : IntKind} {n : Int} (h0 : 0 ≤ n) (h : n < 2 ^ (k.bits - 1)) : k.wrap n = n := by
  cases k <;> simp [IntKind.bits, IntKind.wrap, IntKind.signed] at h ⊢ <;> first | omega | (split <;> omega)
theorem and_mask {k : IntKind} {a : Int} {n : Nat} (hn : n < k.bits) : bitI .and k a ((2 ^ n - 1 : Nat) : Int) = a % ((2 ^ n : Nat) : Int) := by
  have hlt : 2 ^ n < 2 ^ k.bits := Nat.pow_lt_pow_right (by omega) hn
  have hpos : 0 < 2 ^ n := Nat.two_pow_pos n
  have h1 : (BitVec.ofInt k.bits a &&& BitVec.ofInt k.bits ((2 ^ n - 1 : Nat) : Int)).toNat = (a % ((2 ^ n : Nat) : Int)).toNat := by
    rw [BitVec.toNat_and, BitVec.toNat_ofInt, BitVec.toNat_ofInt]
    have e2 : (((2 ^ n - 1 : Nat) : Int) % ((2 ^ k.bits : Nat) : Int)).toNat = 2 ^ n - 1 := by
      rw [Int.emod_eq_of_lt (by omega) (by omega)]
      omega
    rw [e2, Nat.and_two_pow_sub_one_eq_mod]
    have hd : ((2 ^ n : Nat) : Int) ∣ ((2 ^ k.bits : Nat) : Int) := by
      rw [Int.natCast_dvd_natCast]
      exact Nat.pow_dvd_pow 2 (by omega)
    have e3 : a % ((2 ^ n : Nat) : Int) = (a % ((2 ^ k.bits : Nat) : Int)) % ((2 ^ n : Nat) : Int) := (Int.emod_emod_of_dvd a hd).symm
    rw [e3]
    have h0 : 0 ≤ a % ((2 ^ k.bits : Nat) : Int) := Int.emod_nonneg _ (by have := Nat.two_pow_pos k.bits; omega)
    obtain ⟨m, hm⟩ := Int.eq_ofNat_of_zero_le h0
    rw [hm, Int.toNat_natCast, ← Int.natCast_emod, Int.toNat_natCast]
  unfold bitI
  simp only
  rw [h1]
  have h2 : 0 ≤ a % ((2 ^ n : Nat) : Int) := Int.emod_nonneg _ (by omega)
  have h3 : a % ((2 ^ n : Nat) : Int) < ((2 ^ n : Nat) : Int) := Int.emod_lt_of_pos _ (by omega)
  have h4 : 2 ^ n ≤ 2 ^ (k.bits - 1) := Nat.pow_le_pow_right (by omega) (by omega)
  rw [Int.toNat_of_nonneg h2]
  refine wrap_small h2 ?_
  have : ((2 ^ (k.bits - 1) : Nat) : Int) = (2 : Int) ^ (k.bits - 1) := by simp
  omega
theorem run_min {P : Program} {ts : Array TypeId} {t : TypeId} {k : IntKind} {a b : Int} {w : World} : (Builtin.min_ ts t #[.int k a, .int k b]).run P w = .ok (.int k (min a b)) w := by
  simp [Builtin.min_, Builtin.min2]
  split <;> omega
theorem run_max {P : Program} {ts : Array TypeId} {t : TypeId} {k : IntKind} {a b : Int} {w : World} : (Builtin.max_ ts t #[.int k a, .int k b]).run P w = .ok (.int k (max a b)) w := by
  simp [Builtin.max_, Builtin.max2]
  split <;> omega
theorem mnR {P : Program} : (∀ (ts : Array TypeId) (t : TypeId) (k : IntKind) (a b : Int) (w : World), (Builtin.min_ ts t #[.int k a, .int k b]).run P w = .ok (.int k (min a b)) w) ∧ (∀ (ts : Array TypeId) (t : TypeId) (k : IntKind) (a b : Int) (w : World), (Builtin.max_ ts t #[.int k a, .int k b]).run P w = .ok (.int k (max a b)) w) :=
  ⟨fun _ _ _ _ _ _ => run_min, fun _ _ _ _ _ _ => run_max⟩
end Go.Fx
