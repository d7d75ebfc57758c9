/- Bits counted, plainly (second part): the five stages make the sum of the bits; conditions: those of each theorem. -/
import Derived.Test.YtgnibcaflidjmaaOnes
namespace Go.Proofs.Ytgnibcaflidjmaa
theorem stage3 : ∀ (n y : Nat), (∀ i, y / 16 ^ i % 16 ≤ 7) → (y / 16 + y) &&& msk 4 n = pairs 4 n y := by
  intro n
  induction n with
  | zero => intro y _; simp [msk, pairs]
  | succ n ih =>
    intro y h
    have h0 := h 0
    have h1 := h 1
    have h2 := h 2
    have hs : ∀ i, y / 256 / 16 ^ i % 16 ≤ 7 := fun i => by
      have := h (i + 2)
      rwa [Nat.pow_add, Nat.mul_comm, ← Nat.div_div_eq_div_mul] at this
    have hi := ih (y / 256) hs
    have ha := and_low (k := 4) (x := y / 16 + y) (m := msk 4 n)
    simp only [Nat.pow_zero, Nat.div_one, Nat.pow_one, Nat.reducePow] at h0 h1 h2
    have e1 : (y / 16 + y) % 16 = y % 16 + y / 16 % 16 := by omega
    have q1 : y / 16 / 16 = y / 256 := by rw [Nat.div_div_eq_div_mul]
    have q2 : y / 16 = y / 16 % 16 + 16 * (y / 256) := by omega
    have q3 : y = y % 16 + 16 * (y / 16) := by omega
    have q4 : y / 256 = y / 256 % 16 + 16 * (y / 256 / 16) := by omega
    have e2 : (y / 16 + y) / 256 = y / 256 / 16 + y / 256 := by
      clear hs hi ha ih h
      generalize y / 256 / 16 = t at *
      generalize y / 256 % 16 = d2 at *
      generalize y / 16 % 16 = d1 at *
      generalize y % 16 = d0 at *
      rw [q4] at q2
      rw [q2] at q3
      rw [q2, q4]
      omega
    show (y / 16 + y) &&& ((2 ^ 4 - 1) + 2 ^ (2 * 4) * msk 4 n) = (y % 2 ^ 4 + y / 2 ^ 4 % 2 ^ 4) + 2 ^ (2 * 4) * pairs 4 n (y / 2 ^ (2 * 4))
    rw [ha]
    show (y / 16 + y) % 16 + 256 * ((y / 16 + y) / 256 &&& msk 4 n) = (y % 16 + y / 16 % 16) + 256 * pairs 4 n (y / 256)
    rw [e1, e2, hi]
theorem pairs2_digit : ∀ (n x i : Nat), pairs 2 n x / 16 ^ i % 16 ≤ 7 := by
  intro n
  induction n with
  | zero => intro x i; simp [pairs]
  | succ n ih =>
    intro x i
    have e : pairs 2 (n + 1) x = (x % 4 + x / 4 % 4) + 16 * pairs 2 n (x / 16) := rfl
    cases i with
    | zero => rw [e, Nat.pow_zero, Nat.div_one]; omega
    | succ i =>
      rw [Nat.pow_succ, Nat.mul_comm, ← Nat.div_div_eq_div_mul, e, show ((x % 4 + x / 4 % 4) + 16 * pairs 2 n (x / 16)) / 16 = pairs 2 n (x / 16) by omega]
      exact ih _ _
theorem pairs2_le : ∀ (n x : Nat), 15 * pairs 2 n x + 6 ≤ 6 * 16 ^ n := by
  intro n
  induction n with
  | zero => intro x; simp [pairs]
  | succ n ih =>
    intro x
    have e : pairs 2 (n + 1) x = (x % 4 + x / 4 % 4) + 16 * pairs 2 n (x / 16) := rfl
    have := ih (x / 16)
    rw [Nat.pow_succ, e]
    omega
theorem pairs1_le : ∀ (n x : Nat), pairs 1 n x < 4 ^ n := by
  intro n
  induction n with
  | zero => intro x; simp [pairs]
  | succ n ih =>
    intro x
    have e : pairs 1 (n + 1) x = (x % 2 + x / 2 % 2) + 4 * pairs 1 n (x / 4) := rfl
    have := ih (x / 4)
    rw [Nat.pow_succ, e]
    omega
theorem pairs4_le : ∀ (n x : Nat), pairs 4 n x < 256 ^ n := by
  intro n
  induction n with
  | zero => intro x; simp [pairs]
  | succ n ih =>
    intro x
    have e : pairs 4 (n + 1) x = (x % 16 + x / 16 % 16) + 256 * pairs 4 n (x / 256) := rfl
    have := ih (x / 256)
    rw [Nat.pow_succ, e]
    omega
theorem pcN_le : ∀ n x, pcN n x ≤ n := by
  intro n
  induction n with
  | zero => intro x; exact Nat.le_refl _
  | succ n ih => intro x; have := ih (x / 2); rw [pcN]; omega
theorem last_u {z0 z1 z2 z3 b0 b1 b2 : Nat} (e0 : z0 = b0 + 256 * z1) (e1 : z1 = b1 + 256 * z2) (e2 : z2 = b2 + 256 * z3) (s : b0 + b1 + b2 ≤ 64) : (z0 + z1) / 65536 = z2 + z3 := by omega
theorem last_v {z0 z1 z2 z3 z4 z5 z6 z7 b0 b1 b2 b3 b4 b5 b6 : Nat} (e0 : z0 = b0 + 256 * z1) (e1 : z1 = b1 + 256 * z2) (e2 : z2 = b2 + 256 * z3) (e3 : z3 = b3 + 256 * z4) (e4 : z4 = b4 + 256 * z5) (e5 : z5 = b5 + 256 * z6) (e6 : z6 = b6 + 256 * z7) (s : b0 + b1 + b2 + b3 + b4 + b5 + b6 ≤ 64) :
    (z0 + z1 + (z2 + z3)) / 4294967296 = z4 + z5 + (z6 + z7) := by
  have a1 : z0 + z1 = (b0 + b1) + 256 * (b1 + b2) + 65536 * (z2 + z3) := by omega
  have a2 : z2 + z3 = (b2 + b3) + 256 * (b3 + b4) + 65536 * (z4 + z5) := by omega
  have a3 : z4 + z5 = (b4 + b5) + 256 * (b5 + b6) + 65536 * (z6 + z7) := by omega
  clear e0 e1 e2 e3 e4 e5 e6
  generalize z0 + z1 = y0 at *
  generalize z2 + z3 = y2 at *
  generalize z4 + z5 = y4 at *
  generalize z6 + z7 = y6 at *
  have a4 : y0 + y2 = (b0 + b1 + b2 + b3) + 256 * (b1 + b2 + b3 + b4) + 65536 * (y2 + y4) := by omega
  have a5 : y2 + y4 = (b2 + b3 + b4 + b5) + 256 * (b3 + b4 + b5 + b6) + 65536 * (y4 + y6) := by omega
  have a6 : y0 + y2 = ((b0 + b1 + b2 + b3) + 256 * (b1 + b2 + b3 + b4) + 65536 * (b2 + b3 + b4 + b5) + 16777216 * (b3 + b4 + b5 + b6)) + 4294967296 * (y4 + y6) := by rw [a4, a5]; omega
  rw [a6, Nat.add_mul_div_left _ _ (by decide), Nat.div_eq_of_lt (by omega), Nat.zero_add]
theorem last_w {z0 z1 z2 z3 z4 z5 z6 z7 b0 b1 b2 b3 b4 b5 b6 b7 : Nat} (e0 : z0 = b0 + 256 * z1) (e1 : z1 = b1 + 256 * z2) (e2 : z2 = b2 + 256 * z3) (e3 : z3 = b3 + 256 * z4) (e4 : z4 = b4 + 256 * z5) (e5 : z5 = b5 + 256 * z6) (e6 : z6 = b6 + 256 * z7) (e7 : z7 = b7) (s : b0 + b1 + b2 + b3 + b4 + b5 + b6 + b7 ≤ 64) :
    (z0 + z1 + (z2 + z3) + (z4 + z5 + (z6 + z7))) % 128 = b0 + b1 + b2 + b3 + b4 + b5 + b6 + b7 ∧ z0 + z1 + (z2 + z3) + (z4 + z5 + (z6 + z7)) < 9223372036854775808 := by
  have a0 : z0 + z1 + (z2 + z3) + (z4 + z5 + (z6 + z7)) = (b0 + b1 + b2 + b3 + b4 + b5 + b6 + b7) + 256 * (z1 + z2 + z3 + z4 + z5 + z6 + z7) := by omega
  have l6 : z6 ≤ 16448 := by omega
  have l5 : z5 ≤ 4210752 := by omega
  have l4 : z4 ≤ 1077952576 := by omega
  have l3 : z3 ≤ 275955859520 := by omega
  have l2 : z2 ≤ 70644700037184 := by omega
  have l1 : z1 ≤ 18085043209519168 := by omega
  constructor
  · rw [a0, show 256 * (z1 + z2 + z3 + z4 + z5 + z6 + z7) = 128 * (2 * (z1 + z2 + z3 + z4 + z5 + z6 + z7)) by omega, Nat.add_mul_mod_self_left, Nat.mod_eq_of_lt (by omega)]
  · clear e0 e1 e2 e3 e4 e5 e6
    omega
/-- the five stages, and what they make. -/
theorem ones_plain (x : Nat) : ∃ y1 y z t : Nat, (x / 2 &&& msk 1 32) + (x &&& msk 1 32) = y1 ∧ (y1 / 4 &&& msk 2 16) + (y1 &&& msk 2 16) = y ∧ (y / 16 + y) &&& msk 4 8 = z ∧
    z + z / 256 + (z + z / 256) / 65536 + (z + z / 256 + (z + z / 256) / 65536) / 4294967296 = t ∧ y1 < 18446744073709551616 ∧ y < 8000000000000000000 ∧ t < 9223372036854775808 ∧ t % 128 = pcN 64 x := by
  obtain ⟨y1, hy1⟩ : ∃ y1, y1 = pairs 1 32 x := ⟨_, rfl⟩
  obtain ⟨y, hy⟩ : ∃ y, y = pairs 2 16 y1 := ⟨_, rfl⟩
  obtain ⟨z, hz⟩ : ∃ z, z = pairs 4 8 y := ⟨_, rfl⟩
  have s1 := stage 1 32 x
  have s2 := stage 2 16 y1
  have s3 := stage3 8 y (by rw [hy]; exact pairs2_digit 16 y1)
  have l1 := pairs1_le 32 x
  have l2 := pairs2_le 16 y1
  have l3 := pairs4_le 8 y
  have d : dsum 8 8 z = pcN 64 x := by
    have a1 := pairs_dsum 4 (by omega) 8 y
    have a2 := pairs_dsum 2 (by omega) 16 y1
    have a3 := pairs_dsum 1 (by omega) 32 x
    rw [hz, a1, hy, a2, hy1, a3]
    exact dsum_pc 64 x
  have hp := pcN_le 64 x
  rw [← hy1] at s1 l1
  rw [← hy] at s2 l2
  rw [← hz] at s3 l3
  simp only [dsum, Nat.reducePow, Nat.add_zero] at d
  generalize hP : pcN 64 x = pc at *
  have b0 : z = z % 256 + 256 * (z / 256) := by omega
  have b1 : z / 256 = z / 256 % 256 + 256 * (z / 256 / 256) := by omega
  have b2 : z / 256 / 256 = z / 256 / 256 % 256 + 256 * (z / 256 / 256 / 256) := by omega
  have b3 : z / 256 / 256 / 256 = z / 256 / 256 / 256 % 256 + 256 * (z / 256 / 256 / 256 / 256) := by omega
  have b4 : z / 256 / 256 / 256 / 256 = z / 256 / 256 / 256 / 256 % 256 + 256 * (z / 256 / 256 / 256 / 256 / 256) := by omega
  have b5 : z / 256 / 256 / 256 / 256 / 256 = z / 256 / 256 / 256 / 256 / 256 % 256 + 256 * (z / 256 / 256 / 256 / 256 / 256 / 256) := by omega
  have b6 : z / 256 / 256 / 256 / 256 / 256 / 256 = z / 256 / 256 / 256 / 256 / 256 / 256 % 256 + 256 * (z / 256 / 256 / 256 / 256 / 256 / 256 / 256) := by omega
  have l4 : z / 256 / 256 / 256 / 256 / 256 / 256 / 256 < 256 := by
    simp only [Nat.div_div_eq_div_mul, Nat.reduceMul]
    exact Nat.div_lt_of_lt_mul l3
  have b7 : z / 256 / 256 / 256 / 256 / 256 / 256 / 256 = z / 256 / 256 / 256 / 256 / 256 / 256 / 256 % 256 := (Nat.mod_eq_of_lt l4).symm
  have hs : z % 256 + z / 256 % 256 + z / 256 / 256 % 256 + z / 256 / 256 / 256 % 256 + z / 256 / 256 / 256 / 256 % 256 + z / 256 / 256 / 256 / 256 / 256 % 256 + z / 256 / 256 / 256 / 256 / 256 / 256 % 256 + z / 256 / 256 / 256 / 256 / 256 / 256 / 256 % 256 = pc := by
    rw [← d]
    simp only [Nat.add_assoc]
  have u1 := last_u b0 b1 b2 (by omega)
  have v1 := last_v b0 b1 b2 b3 b4 b5 b6 (by omega)
  obtain ⟨w1, w2⟩ := last_w b0 b1 b2 b3 b4 b5 b6 b7 (by omega)
  rw [hs] at w1
  have hL : 15 * y + 6 ≤ 110680464442257309696 := l2
  refine ⟨y1, y, z, _, s1, s2, s3, rfl, l1, by clear u1 v1 w1 w2 b0 b1 b2 b3 b4 b5 b6 b7 l4 hs d hz; omega, ?_, ?_⟩
  · rw [u1, v1]; exact w2
  · rw [u1, v1]; exact w1
end Go.Proofs.Ytgnibcaflidjmaa
