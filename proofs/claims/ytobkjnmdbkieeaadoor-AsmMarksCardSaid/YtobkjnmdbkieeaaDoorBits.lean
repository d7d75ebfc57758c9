/-
  Bits of numbers: masks and shifts as division and remainder; conditions: those of each theorem.
-/
import Derived.Test.YtobkjnmdbkieeaaDoorOps
namespace Go.Fx
theorem wrap_small {k : IntKind} {n : Int} (h0 : 0 ≤ n) (h : n < 2 ^ (k.bits - 1)) : k.wrap n = n := by
  cases k <;> simp [IntKind.bits, IntKind.wrap, IntKind.signed] at h ⊢ <;> first | omega | (split <;> omega)
theorem and_mask {k : IntKind} {a : Int} {n : Nat} (hn : n < k.bits) : bitI .and k a ((2 ^ n - 1 : Nat) : Int) = a % ((2 ^ n : Nat) : Int) := by
  have hlt : 2 ^ n < 2 ^ k.bits := Nat.pow_lt_pow_right (by omega) hn
  have hpos : 0 < 2 ^ n := Nat.two_pow_pos n
  have h1 : (BitVec.ofInt k.bits a &&& BitVec.ofInt k.bits ((2 ^ n - 1 : Nat) : Int)).toNat = (a % ((2 ^ n : Nat) : Int)).toNat := by
    rw [BitVec.toNat_and, BitVec.toNat_ofInt, BitVec.toNat_ofInt]
    have e2 : (((2 ^ n - 1 : Nat) : Int) % ((2 ^ k.bits : Nat) : Int)).toNat = 2 ^ n - 1 := by
      rw [Int.emod_eq_of_lt (by omega) (by omega)]
      omega
    rw [e2, Nat.and_two_pow_sub_one_eq_mod]
    have hd : ((2 ^ n : Nat) : Int) ∣ ((2 ^ k.bits : Nat) : Int) := by
      rw [Int.natCast_dvd_natCast]
      exact Nat.pow_dvd_pow 2 (by omega)
    have e3 : a % ((2 ^ n : Nat) : Int) = (a % ((2 ^ k.bits : Nat) : Int)) % ((2 ^ n : Nat) : Int) := (Int.emod_emod_of_dvd a hd).symm
    rw [e3]
    have h0 : 0 ≤ a % ((2 ^ k.bits : Nat) : Int) := Int.emod_nonneg _ (by have := Nat.two_pow_pos k.bits; omega)
    obtain ⟨m, hm⟩ := Int.eq_ofNat_of_zero_le h0
    rw [hm, Int.toNat_natCast, ← Int.natCast_emod, Int.toNat_natCast]
  unfold bitI
  simp only
  rw [h1]
  have h2 : 0 ≤ a % ((2 ^ n : Nat) : Int) := Int.emod_nonneg _ (by omega)
  have h3 : a % ((2 ^ n : Nat) : Int) < ((2 ^ n : Nat) : Int) := Int.emod_lt_of_pos _ (by omega)
  have h4 : 2 ^ n ≤ 2 ^ (k.bits - 1) := Nat.pow_le_pow_right (by omega) (by omega)
  rw [Int.toNat_of_nonneg h2]
  refine wrap_small h2 ?_
  have : ((2 ^ (k.bits - 1) : Nat) : Int) = (2 : Int) ^ (k.bits - 1) := by simp
  omega
/-! ### bits of 64-bit numbers -/
theorem ofInt_toNat {a : Int} (h0 : 0 ≤ a) (h : a < 18446744073709551616) : (BitVec.ofInt 64 a).toNat = a.toNat := by
  rw [BitVec.toNat_ofInt]
  have : a % ((2 ^ 64 : Nat) : Int) = a := Int.emod_eq_of_lt h0 (by simpa using h)
  rw [this]
theorem wrap64 (x : BitVec 64) : IntKind.u64.wrap (x.toNat : Int) = (x.toNat : Int) := by
  have := x.isLt
  simp only [IntKind.wrap, IntKind.signed, IntKind.bits]
  simp
  omega
theorem or_u64 {a b : Int} (ha : 0 ≤ a ∧ a < 18446744073709551616) (hb : 0 ≤ b ∧ b < 18446744073709551616) : bitI .or .u64 a b = ((a.toNat ||| b.toNat : Nat) : Int) := by
  have h : bitI .or .u64 a b = IntKind.u64.wrap (((BitVec.ofInt 64 a ||| BitVec.ofInt 64 b : BitVec 64).toNat : Nat) : Int) := rfl
  rw [h, wrap64, BitVec.toNat_or, ofInt_toNat ha.1 ha.2, ofInt_toNat hb.1 hb.2]
theorem and_u64 {a b : Int} (ha : 0 ≤ a ∧ a < 18446744073709551616) (hb : 0 ≤ b ∧ b < 18446744073709551616) : bitI .and .u64 a b = ((a.toNat &&& b.toNat : Nat) : Int) := by
  have h : bitI .and .u64 a b = IntKind.u64.wrap (((BitVec.ofInt 64 a &&& BitVec.ofInt 64 b : BitVec 64).toNat : Nat) : Int) := rfl
  rw [h, wrap64, BitVec.toNat_and, ofInt_toNat ha.1 ha.2, ofInt_toNat hb.1 hb.2]
theorem xor_u64 {a b : Int} (ha : 0 ≤ a ∧ a < 18446744073709551616) (hb : 0 ≤ b ∧ b < 18446744073709551616) : bitI .xor .u64 a b = ((a.toNat ^^^ b.toNat : Nat) : Int) := by
  have h : bitI .xor .u64 a b = IntKind.u64.wrap (((BitVec.ofInt 64 a ^^^ BitVec.ofInt 64 b : BitVec 64).toNat : Nat) : Int) := rfl
  rw [h, wrap64, BitVec.toNat_xor, ofInt_toNat ha.1 ha.2, ofInt_toNat hb.1 hb.2]
theorem andNot_u64 {a b : Int} (hb : 0 ≤ b ∧ b < 18446744073709551616) (ha : 0 ≤ a ∧ a < 18446744073709551616) : ∃ r : Nat, bitI .andNot .u64 a b = (r : Int) ∧ r < 18446744073709551616 ∧ ∀ i, i < 64 → r.testBit i = (a.toNat.testBit i && !b.toNat.testBit i) := by
  have h : bitI .andNot .u64 a b = IntKind.u64.wrap (((BitVec.ofInt 64 a &&& ~~~ BitVec.ofInt 64 b : BitVec 64).toNat : Nat) : Int) := rfl
  refine ⟨_, by rw [h, wrap64], (BitVec.ofInt 64 a &&& ~~~ BitVec.ofInt 64 b : BitVec 64).isLt, fun i hi => ?_⟩
  rw [BitVec.testBit_toNat, BitVec.getLsbD_and, BitVec.getLsbD_not, ← BitVec.testBit_toNat, ← BitVec.testBit_toNat, ofInt_toNat ha.1 ha.2, ofInt_toNat hb.1 hb.2]
  simp [hi]
theorem or_lt {a b : Nat} (ha : a < 18446744073709551616) (hb : b < 18446744073709551616) : a ||| b < 18446744073709551616 := Nat.or_lt_two_pow (n := 64) ha hb
theorem and_lt {a b : Nat} (ha : a < 18446744073709551616) : a &&& b < 18446744073709551616 := Nat.lt_of_le_of_lt Nat.and_le_left ha
theorem run_min {P : Program} {ts : Array TypeId} {t : TypeId} {k : IntKind} {a b : Int} {w : World} : (Builtin.min_ ts t #[.int k a, .int k b]).run P w = .ok (.int k (min a b)) w := by
  simp [Builtin.min_, Builtin.min2]
  split <;> omega
theorem run_max {P : Program} {ts : Array TypeId} {t : TypeId} {k : IntKind} {a b : Int} {w : World} : (Builtin.max_ ts t #[.int k a, .int k b]).run P w = .ok (.int k (max a b)) w := by
  simp [Builtin.max_, Builtin.max2]
  split <;> omega
theorem mnR {P : Program} : (∀ (ts : Array TypeId) (t : TypeId) (k : IntKind) (a b : Int) (w : World), (Builtin.min_ ts t #[.int k a, .int k b]).run P w = .ok (.int k (min a b)) w) ∧ (∀ (ts : Array TypeId) (t : TypeId) (k : IntKind) (a b : Int) (w : World), (Builtin.max_ ts t #[.int k a, .int k b]).run P w = .ok (.int k (max a b)) w) :=
  ⟨fun _ _ _ _ _ _ => run_min, fun _ _ _ _ _ _ => run_max⟩
end Go.Fx
