/- Part 6 of what the law AsmLists stands on: formulas of the functions that it reaches, and what each of them does; conditions: those of each theorem. -/
import Derived.Test.YtobkjnmdbkieeaaGreatDoorP5
set_option linter.unusedVariables false
set_option linter.unusedSimpArgs false
namespace Go.Proofs.YtobkjnmdbkieeaaGreatDoor
open Go.Fx
set_option maxRecDepth 100000
theorem mid_eq {hi v lo a k : Nat} (hlo : lo < 2 ^ a) (hv : v < 2 ^ k) : (2 ^ (a + k) * hi + (2 ^ a * v + lo)) / 2 ^ a = 2 ^ k * hi + v /\ (2 ^ (a + k) * hi + (2 ^ a * v + lo)) % 2 ^ a = lo /\ (2 ^ (a + k) * hi + (2 ^ a * v + lo)) / 2 ^ (a + k) = hi := by
 have ha := Nat.two_pow_pos a
 have hk := Nat.two_pow_pos k
 have e : 2 ^ (a + k) * hi + (2 ^ a * v + lo) = lo + 2 ^ a * (2 ^ k * hi + v) := by
  rw [Nat.pow_add, Nat.mul_add, Nat.mul_assoc]
  omega
 have h1 : (2 ^ (a + k) * hi + (2 ^ a * v + lo)) / 2 ^ a = 2 ^ k * hi + v := by
  rw [e, Nat.add_mul_div_left _ _ ha, Nat.div_eq_of_lt hlo, Nat.zero_add]
 refine ⟨h1, ?_, ?_⟩
 ·rw [e, Nat.add_mul_mod_self_left, Nat.mod_eq_of_lt hlo]
 ·rw [Nat.pow_add, <- Nat.div_div_eq_div_mul, <- Nat.pow_add, h1, Nat.add_comm, Nat.add_mul_div_left _ _ hk, Nat.div_eq_of_lt hv, Nat.zero_add]
theorem fld_mid {W hi v lo a k : Nat} (hW : W = 2 ^ (a + k) * hi + (2 ^ a * v + lo)) (hlo : lo < 2 ^ a) (hv : v < 2 ^ k) : W / 2 ^ a % 2 ^ k = v := by
 rw [hW, (mid_eq hlo hv).1, Nat.add_comm, Nat.add_mul_mod_self_left, Nat.mod_eq_of_lt hv]
theorem put_mid {x hi lo a k v : Nat} (hx : x = 2 ^ (a + k) * hi + lo) (hlo : lo < 2 ^ a) (hv : v < 2 ^ k) : putB x a k v = 2 ^ (a + k) * hi + (2 ^ a * v + lo) := by
 have h0 : (0 : Nat) < 2 ^ k := Nat.two_pow_pos k
 have h := mid_eq (hi := hi) (v := 0) hlo h0
 rw [Nat.mul_zero, Nat.zero_add] at h
 unfold putB
 rw [hx, h.2.1, h.2.2, Nat.mod_eq_of_lt hv, Nat.mul_comm hi, Nat.mul_comm v]
 omega
theorem lp_73 : (laidS 73).1 = [(0, 12, 20)] := rfl
theorem v0_73 {w0 w1 w2 w3 w4 : Nat} (h0 : w0 < 128) (h1 : w1 < 32) (h2 : w2 < 8) (h3 : w3 < 32) (h4 : w4 < 4096) : (w0 + 128 * w1 + 4096 * w2 + 32768 * w3 + 1048576 * w4) / 2 ^ 20 % 2 ^ 12 = w4 := fld_mid (hi := 0) (lo := w0 + 128 * w1 + 4096 * w2 + 32768 * w3) (by first | (simp only [Nat.reduceAdd, Nat.reducePow]; omega) | (simp only [Nat.reduceAdd, Nat.reducePow]; done) | omega) (by first | (simp only [Nat.reduceAdd, Nat.reducePow]; omega) | (simp only [Nat.reduceAdd, Nat.reducePow]; done) | omega) (by first | (simp only [Nat.reduceAdd, Nat.reducePow]; omega) | (simp only [Nat.reduceAdd, Nat.reducePow]; done) | omega)
theorem s0_73 {w0 w1 w2 w3 w4 : Nat} (h0 : w0 < 128) (h1 : w1 < 32) (h2 : w2 < 8) (h3 : w3 < 32) (h4 : w4 < 4096) : putB (0) 0 12 w4 = w4 := (put_mid (hi := 0) (lo := 0) (by first | (simp only [Nat.reduceAdd, Nat.reducePow]; omega) | (simp only [Nat.reduceAdd, Nat.reducePow]; done) | omega) (by first | (simp only [Nat.reduceAdd, Nat.reducePow]; omega) | (simp only [Nat.reduceAdd, Nat.reducePow]; done) | omega) (by first | (simp only [Nat.reduceAdd, Nat.reducePow]; omega) | (simp only [Nat.reduceAdd, Nat.reducePow]; done) | omega)).trans (by first | (simp only [Nat.reduceAdd, Nat.reducePow]; omega) | (simp only [Nat.reduceAdd, Nat.reducePow]; done) | omega)
theorem x_73 {W w0 w1 w2 w3 w4 : Nat} (hW : W = w0 + 128 * w1 + 4096 * w2 + 32768 * w3 + 1048576 * w4) (h0 : w0 < 128) (h1 : w1 < 32) (h2 : w2 < 8) (h3 : w3 < 32) (h4 : w4 < 4096) : (laidS 73).1.foldl (readX W) 0 = w4 := by
 rw [lp_73]
 have v0 : W / 2 ^ 20 % 2 ^ 12 = w4 := by rw [hW]; exact v0_73 h0 h1 h2 h3 h4
 have s0 : putB (0) 0 12 w4 = w4 := s0_73 h0 h1 h2 h3 h4
 have e0 : ∀ x, readX W x (0, 12, 20) = putB x 0 12 (W / 2 ^ 20 % 2 ^ 12) := fun _ => rfl
 rw [List.foldl_cons, List.foldl_nil, e0, v0, s0]
theorem z0_73 {w0 w1 w2 w3 w4 : Nat} (h0 : w0 < 128) (h1 : w1 < 32) (h2 : w2 < 8) (h3 : w3 < 32) (h4 : w4 < 4096) : (w4) / 2 ^ 0 % 2 ^ 12 = w4 := fld_mid (hi := 0) (lo := 0) (by first | (simp only [Nat.reduceAdd, Nat.reducePow]; omega) | (simp only [Nat.reduceAdd, Nat.reducePow]; done) | omega) (by first | (simp only [Nat.reduceAdd, Nat.reducePow]; omega) | (simp only [Nat.reduceAdd, Nat.reducePow]; done) | omega) (by first | (simp only [Nat.reduceAdd, Nat.reducePow]; omega) | (simp only [Nat.reduceAdd, Nat.reducePow]; done) | omega)
theorem l0_73 {w0 w1 w2 w3 w4 : Nat} (h0 : w0 < 128) (h1 : w1 < 32) (h2 : w2 < 8) (h3 : w3 < 32) (h4 : w4 < 4096) : putB (w0 + 4096 * w2) 20 12 w4 = w0 + 4096 * w2 + 1048576 * w4 := (put_mid (hi := 0) (lo := w0 + 4096 * w2) (by first | (simp only [Nat.reduceAdd, Nat.reducePow]; omega) | (simp only [Nat.reduceAdd, Nat.reducePow]; done) | omega) (by first | (simp only [Nat.reduceAdd, Nat.reducePow]; omega) | (simp only [Nat.reduceAdd, Nat.reducePow]; done) | omega) (by first | (simp only [Nat.reduceAdd, Nat.reducePow]; omega) | (simp only [Nat.reduceAdd, Nat.reducePow]; done) | omega)).trans (by first | (simp only [Nat.reduceAdd, Nat.reducePow]; omega) | (simp only [Nat.reduceAdd, Nat.reducePow]; done) | omega)
theorem g7_73 {w0 w1 w2 w3 w4 : Nat} (h0 : w0 < 128) (h1 : w1 < 32) (h2 : w2 < 8) (h3 : w3 < 32) (h4 : w4 < 4096) : (w0 + 128 * w1 + 4096 * w2 + 32768 * w3 + 1048576 * w4) / 2 ^ 7 % 2 ^ 5 = w1 := fld_mid (hi := w2 + 8 * w3 + 256 * w4) (lo := w0) (by first | (simp only [Nat.reduceAdd, Nat.reducePow]; omega) | (simp only [Nat.reduceAdd, Nat.reducePow]; done) | omega) (by first | (simp only [Nat.reduceAdd, Nat.reducePow]; omega) | (simp only [Nat.reduceAdd, Nat.reducePow]; done) | omega) (by first | (simp only [Nat.reduceAdd, Nat.reducePow]; omega) | (simp only [Nat.reduceAdd, Nat.reducePow]; done) | omega)
theorem r7_73 {w0 w1 w2 w3 w4 : Nat} (h0 : w0 < 128) (h1 : w1 < 32) (h2 : w2 < 8) (h3 : w3 < 32) (h4 : w4 < 4096) : putB (w0 + 4096 * w2 + 1048576 * w4) 7 5 w1 = w0 + 4096 * w2 + 1048576 * w4 + 128 * w1 := (put_mid (hi := w2 + 256 * w4) (lo := w0) (by first | (simp only [Nat.reduceAdd, Nat.reducePow]; omega) | (simp only [Nat.reduceAdd, Nat.reducePow]; done) | omega) (by first | (simp only [Nat.reduceAdd, Nat.reducePow]; omega) | (simp only [Nat.reduceAdd, Nat.reducePow]; done) | omega) (by first | (simp only [Nat.reduceAdd, Nat.reducePow]; omega) | (simp only [Nat.reduceAdd, Nat.reducePow]; done) | omega)).trans (by first | (simp only [Nat.reduceAdd, Nat.reducePow]; omega) | (simp only [Nat.reduceAdd, Nat.reducePow]; done) | omega)
theorem g15_73 {w0 w1 w2 w3 w4 : Nat} (h0 : w0 < 128) (h1 : w1 < 32) (h2 : w2 < 8) (h3 : w3 < 32) (h4 : w4 < 4096) : (w0 + 128 * w1 + 4096 * w2 + 32768 * w3 + 1048576 * w4) / 2 ^ 15 % 2 ^ 5 = w3 := fld_mid (hi := w4) (lo := w0 + 128 * w1 + 4096 * w2) (by first | (simp only [Nat.reduceAdd, Nat.reducePow]; omega) | (simp only [Nat.reduceAdd, Nat.reducePow]; done) | omega) (by first | (simp only [Nat.reduceAdd, Nat.reducePow]; omega) | (simp only [Nat.reduceAdd, Nat.reducePow]; done) | omega) (by first | (simp only [Nat.reduceAdd, Nat.reducePow]; omega) | (simp only [Nat.reduceAdd, Nat.reducePow]; done) | omega)
theorem r15_73 {w0 w1 w2 w3 w4 : Nat} (h0 : w0 < 128) (h1 : w1 < 32) (h2 : w2 < 8) (h3 : w3 < 32) (h4 : w4 < 4096) : putB (w0 + 4096 * w2 + 1048576 * w4 + 128 * w1) 15 5 w3 = w0 + 4096 * w2 + 1048576 * w4 + 128 * w1 + 32768 * w3 := (put_mid (hi := w4) (lo := w0 + 4096 * w2 + 128 * w1) (by first | (simp only [Nat.reduceAdd, Nat.reducePow]; omega) | (simp only [Nat.reduceAdd, Nat.reducePow]; done) | omega) (by first | (simp only [Nat.reduceAdd, Nat.reducePow]; omega) | (simp only [Nat.reduceAdd, Nat.reducePow]; done) | omega) (by first | (simp only [Nat.reduceAdd, Nat.reducePow]; omega) | (simp only [Nat.reduceAdd, Nat.reducePow]; done) | omega)).trans (by first | (simp only [Nat.reduceAdd, Nat.reducePow]; omega) | (simp only [Nat.reduceAdd, Nat.reducePow]; done) | omega)
theorem w_73 {W w0 w1 w2 w3 w4 : Nat} {im : Int} (hW : W = w0 + 128 * w1 + 4096 * w2 + 32768 * w3 + 1048576 * w4) (h0 : w0 < 128) (h1 : w1 < 32) (h2 : w2 < 8) (h3 : w3 < 32) (h4 : w4 < 4096) (him : un im = signN ((laidS 73).1.foldl (readX W) 0) 12) : [((hasS 73).1, 7, if (hasS 73).1 = true then ((W / 2 ^ 7 % 2 ^ 5 : Nat) : Int) else 0), ((hasS 73).2.1, 15, if (hasS 73).2.1 = true then ((W / 2 ^ 15 % 2 ^ 5 : Nat) : Int) else 0), ((hasS 73).2.2, 20, if (hasS 73).2.2 = true then ((W / 2 ^ 20 % 2 ^ 5 : Nat) : Int) else 0)].foldl stepR ((laidS 73).1.foldl (layB im) (w0 + 4096 * w2)) = W := by
 have hx := x_73 hW h0 h1 h2 h3 h4
 rw [hx] at him
 clear hx
 have eh : hasS 73 = (true, true, false) := rfl
 rw [eh]
 have z0 : (w4) / 2 ^ 0 % 2 ^ 12 = w4 := by exact z0_73 h0 h1 h2 h3 h4
 have u0 : un im / 2 ^ 0 % 2 ^ 12 = w4 := by rw [him, sign_piece (by decide) (by decide)]; exact z0
 have l0 : putB (w0 + 4096 * w2) 20 12 w4 = w0 + 4096 * w2 + 1048576 * w4 := l0_73 h0 h1 h2 h3 h4
 have hl : (laidS 73).1.foldl (layB im) (w0 + 4096 * w2) = w0 + 4096 * w2 + 1048576 * w4 := by
  rw [lp_73]
  have e0 : ∀ x, layB im x (0, 12, 20) = putB x 20 12 (un im / 2 ^ 0 % 2 ^ 12) := fun _ => rfl
  rw [List.foldl_cons, List.foldl_nil, e0, u0, l0]
 rw [hl]
 have g7 : W / 2 ^ 7 % 2 ^ 5 = w1 := by rw [hW]; exact g7_73 h0 h1 h2 h3 h4
 have r7 : putB (w0 + 4096 * w2 + 1048576 * w4) 7 5 w1 = w0 + 4096 * w2 + 1048576 * w4 + 128 * w1 := r7_73 h0 h1 h2 h3 h4
 have q7 : un ((w1 : Nat) : Int) = w1 := un_small (by omega)
 have g15 : W / 2 ^ 15 % 2 ^ 5 = w3 := by rw [hW]; exact g15_73 h0 h1 h2 h3 h4
 have r15 : putB (w0 + 4096 * w2 + 1048576 * w4 + 128 * w1) 15 5 w3 = w0 + 4096 * w2 + 1048576 * w4 + 128 * w1 + 32768 * w3 := r15_73 h0 h1 h2 h3 h4
 have q15 : un ((w3 : Nat) : Int) = w3 := un_small (by omega)
 have ey : ∀ (x a : Nat) (r : Int), stepR x (true, a, r) = putB x a 5 (un r) := fun _ _ _ => rfl
 have en : ∀ (x a : Nat) (r : Int), stepR x (false, a, r) = x := fun _ _ _ => rfl
 dsimp only
 rw [List.foldl_cons, List.foldl_cons, List.foldl_cons, List.foldl_nil, en, ey, ey, if_pos rfl, if_pos rfl, g7, g15, q7, q15, r7, r15]
 rw [hW]
 clear hW
 omega
theorem lp_67 : (laidS 67).1 = [(0, 12, 20)] := rfl
theorem v0_67 {w0 w1 w2 w3 w4 : Nat} (h0 : w0 < 128) (h1 : w1 < 32) (h2 : w2 < 8) (h3 : w3 < 32) (h4 : w4 < 4096) : (w0 + 128 * w1 + 4096 * w2 + 32768 * w3 + 1048576 * w4) / 2 ^ 20 % 2 ^ 12 = w4 := fld_mid (hi := 0) (lo := w0 + 128 * w1 + 4096 * w2 + 32768 * w3) (by first | (simp only [Nat.reduceAdd, Nat.reducePow]; omega) | (simp only [Nat.reduceAdd, Nat.reducePow]; done) | omega) (by first | (simp only [Nat.reduceAdd, Nat.reducePow]; omega) | (simp only [Nat.reduceAdd, Nat.reducePow]; done) | omega) (by first | (simp only [Nat.reduceAdd, Nat.reducePow]; omega) | (simp only [Nat.reduceAdd, Nat.reducePow]; done) | omega)
theorem s0_67 {w0 w1 w2 w3 w4 : Nat} (h0 : w0 < 128) (h1 : w1 < 32) (h2 : w2 < 8) (h3 : w3 < 32) (h4 : w4 < 4096) : putB (0) 0 12 w4 = w4 := (put_mid (hi := 0) (lo := 0) (by first | (simp only [Nat.reduceAdd, Nat.reducePow]; omega) | (simp only [Nat.reduceAdd, Nat.reducePow]; done) | omega) (by first | (simp only [Nat.reduceAdd, Nat.reducePow]; omega) | (simp only [Nat.reduceAdd, Nat.reducePow]; done) | omega) (by first | (simp only [Nat.reduceAdd, Nat.reducePow]; omega) | (simp only [Nat.reduceAdd, Nat.reducePow]; done) | omega)).trans (by first | (simp only [Nat.reduceAdd, Nat.reducePow]; omega) | (simp only [Nat.reduceAdd, Nat.reducePow]; done) | omega)
theorem x_67 {W w0 w1 w2 w3 w4 : Nat} (hW : W = w0 + 128 * w1 + 4096 * w2 + 32768 * w3 + 1048576 * w4) (h0 : w0 < 128) (h1 : w1 < 32) (h2 : w2 < 8) (h3 : w3 < 32) (h4 : w4 < 4096) : (laidS 67).1.foldl (readX W) 0 = w4 := by
 rw [lp_67]
 have v0 : W / 2 ^ 20 % 2 ^ 12 = w4 := by rw [hW]; exact v0_67 h0 h1 h2 h3 h4
 have s0 : putB (0) 0 12 w4 = w4 := s0_67 h0 h1 h2 h3 h4
 have e0 : ∀ x, readX W x (0, 12, 20) = putB x 0 12 (W / 2 ^ 20 % 2 ^ 12) := fun _ => rfl
 rw [List.foldl_cons, List.foldl_nil, e0, v0, s0]
theorem z0_67 {w0 w1 w2 w3 w4 : Nat} (h0 : w0 < 128) (h1 : w1 < 32) (h2 : w2 < 8) (h3 : w3 < 32) (h4 : w4 < 4096) : (w4) / 2 ^ 0 % 2 ^ 12 = w4 := fld_mid (hi := 0) (lo := 0) (by first | (simp only [Nat.reduceAdd, Nat.reducePow]; omega) | (simp only [Nat.reduceAdd, Nat.reducePow]; done) | omega) (by first | (simp only [Nat.reduceAdd, Nat.reducePow]; omega) | (simp only [Nat.reduceAdd, Nat.reducePow]; done) | omega) (by first | (simp only [Nat.reduceAdd, Nat.reducePow]; omega) | (simp only [Nat.reduceAdd, Nat.reducePow]; done) | omega)
theorem l0_67 {w0 w1 w2 w3 w4 : Nat} (h0 : w0 < 128) (h1 : w1 < 32) (h2 : w2 < 8) (h3 : w3 < 32) (h4 : w4 < 4096) : putB (w0 + 4096 * w2) 20 12 w4 = w0 + 4096 * w2 + 1048576 * w4 := (put_mid (hi := 0) (lo := w0 + 4096 * w2) (by first | (simp only [Nat.reduceAdd, Nat.reducePow]; omega) | (simp only [Nat.reduceAdd, Nat.reducePow]; done) | omega) (by first | (simp only [Nat.reduceAdd, Nat.reducePow]; omega) | (simp only [Nat.reduceAdd, Nat.reducePow]; done) | omega) (by first | (simp only [Nat.reduceAdd, Nat.reducePow]; omega) | (simp only [Nat.reduceAdd, Nat.reducePow]; done) | omega)).trans (by first | (simp only [Nat.reduceAdd, Nat.reducePow]; omega) | (simp only [Nat.reduceAdd, Nat.reducePow]; done) | omega)
theorem g7_67 {w0 w1 w2 w3 w4 : Nat} (h0 : w0 < 128) (h1 : w1 < 32) (h2 : w2 < 8) (h3 : w3 < 32) (h4 : w4 < 4096) : (w0 + 128 * w1 + 4096 * w2 + 32768 * w3 + 1048576 * w4) / 2 ^ 7 % 2 ^ 5 = w1 := fld_mid (hi := w2 + 8 * w3 + 256 * w4) (lo := w0) (by first | (simp only [Nat.reduceAdd, Nat.reducePow]; omega) | (simp only [Nat.reduceAdd, Nat.reducePow]; done) | omega) (by first | (simp only [Nat.reduceAdd, Nat.reducePow]; omega) | (simp only [Nat.reduceAdd, Nat.reducePow]; done) | omega) (by first | (simp only [Nat.reduceAdd, Nat.reducePow]; omega) | (simp only [Nat.reduceAdd, Nat.reducePow]; done) | omega)
theorem r7_67 {w0 w1 w2 w3 w4 : Nat} (h0 : w0 < 128) (h1 : w1 < 32) (h2 : w2 < 8) (h3 : w3 < 32) (h4 : w4 < 4096) : putB (w0 + 4096 * w2 + 1048576 * w4) 7 5 w1 = w0 + 4096 * w2 + 1048576 * w4 + 128 * w1 := (put_mid (hi := w2 + 256 * w4) (lo := w0) (by first | (simp only [Nat.reduceAdd, Nat.reducePow]; omega) | (simp only [Nat.reduceAdd, Nat.reducePow]; done) | omega) (by first | (simp only [Nat.reduceAdd, Nat.reducePow]; omega) | (simp only [Nat.reduceAdd, Nat.reducePow]; done) | omega) (by first | (simp only [Nat.reduceAdd, Nat.reducePow]; omega) | (simp only [Nat.reduceAdd, Nat.reducePow]; done) | omega)).trans (by first | (simp only [Nat.reduceAdd, Nat.reducePow]; omega) | (simp only [Nat.reduceAdd, Nat.reducePow]; done) | omega)
theorem g15_67 {w0 w1 w2 w3 w4 : Nat} (h0 : w0 < 128) (h1 : w1 < 32) (h2 : w2 < 8) (h3 : w3 < 32) (h4 : w4 < 4096) : (w0 + 128 * w1 + 4096 * w2 + 32768 * w3 + 1048576 * w4) / 2 ^ 15 % 2 ^ 5 = w3 := fld_mid (hi := w4) (lo := w0 + 128 * w1 + 4096 * w2) (by first | (simp only [Nat.reduceAdd, Nat.reducePow]; omega) | (simp only [Nat.reduceAdd, Nat.reducePow]; done) | omega) (by first | (simp only [Nat.reduceAdd, Nat.reducePow]; omega) | (simp only [Nat.reduceAdd, Nat.reducePow]; done) | omega) (by first | (simp only [Nat.reduceAdd, Nat.reducePow]; omega) | (simp only [Nat.reduceAdd, Nat.reducePow]; done) | omega)
theorem r15_67 {w0 w1 w2 w3 w4 : Nat} (h0 : w0 < 128) (h1 : w1 < 32) (h2 : w2 < 8) (h3 : w3 < 32) (h4 : w4 < 4096) : putB (w0 + 4096 * w2 + 1048576 * w4 + 128 * w1) 15 5 w3 = w0 + 4096 * w2 + 1048576 * w4 + 128 * w1 + 32768 * w3 := (put_mid (hi := w4) (lo := w0 + 4096 * w2 + 128 * w1) (by first | (simp only [Nat.reduceAdd, Nat.reducePow]; omega) | (simp only [Nat.reduceAdd, Nat.reducePow]; done) | omega) (by first | (simp only [Nat.reduceAdd, Nat.reducePow]; omega) | (simp only [Nat.reduceAdd, Nat.reducePow]; done) | omega) (by first | (simp only [Nat.reduceAdd, Nat.reducePow]; omega) | (simp only [Nat.reduceAdd, Nat.reducePow]; done) | omega)).trans (by first | (simp only [Nat.reduceAdd, Nat.reducePow]; omega) | (simp only [Nat.reduceAdd, Nat.reducePow]; done) | omega)
theorem w_67 {W w0 w1 w2 w3 w4 : Nat} {im : Int} (hW : W = w0 + 128 * w1 + 4096 * w2 + 32768 * w3 + 1048576 * w4) (h0 : w0 < 128) (h1 : w1 < 32) (h2 : w2 < 8) (h3 : w3 < 32) (h4 : w4 < 4096) (him : un im = ((laidS 67).1.foldl (readX W) 0)) : [((hasS 67).1, 7, if (hasS 67).1 = true then ((W / 2 ^ 7 % 2 ^ 5 : Nat) : Int) else 0), ((hasS 67).2.1, 15, if (hasS 67).2.1 = true then ((W / 2 ^ 15 % 2 ^ 5 : Nat) : Int) else 0), ((hasS 67).2.2, 20, if (hasS 67).2.2 = true then ((W / 2 ^ 20 % 2 ^ 5 : Nat) : Int) else 0)].foldl stepR ((laidS 67).1.foldl (layB im) (w0 + 4096 * w2)) = W := by
 have hx := x_67 hW h0 h1 h2 h3 h4
 rw [hx] at him
 clear hx
 have eh : hasS 67 = (true, true, false) := rfl
 rw [eh]
 have z0 : (w4) / 2 ^ 0 % 2 ^ 12 = w4 := by exact z0_67 h0 h1 h2 h3 h4
 have u0 : un im / 2 ^ 0 % 2 ^ 12 = w4 := by rw [him]; exact z0
 have l0 : putB (w0 + 4096 * w2) 20 12 w4 = w0 + 4096 * w2 + 1048576 * w4 := l0_67 h0 h1 h2 h3 h4
 have hl : (laidS 67).1.foldl (layB im) (w0 + 4096 * w2) = w0 + 4096 * w2 + 1048576 * w4 := by
  rw [lp_67]
  have e0 : ∀ x, layB im x (0, 12, 20) = putB x 20 12 (un im / 2 ^ 0 % 2 ^ 12) := fun _ => rfl
  rw [List.foldl_cons, List.foldl_nil, e0, u0, l0]
 rw [hl]
 have g7 : W / 2 ^ 7 % 2 ^ 5 = w1 := by rw [hW]; exact g7_67 h0 h1 h2 h3 h4
 have r7 : putB (w0 + 4096 * w2 + 1048576 * w4) 7 5 w1 = w0 + 4096 * w2 + 1048576 * w4 + 128 * w1 := r7_67 h0 h1 h2 h3 h4
 have q7 : un ((w1 : Nat) : Int) = w1 := un_small (by omega)
 have g15 : W / 2 ^ 15 % 2 ^ 5 = w3 := by rw [hW]; exact g15_67 h0 h1 h2 h3 h4
 have r15 : putB (w0 + 4096 * w2 + 1048576 * w4 + 128 * w1) 15 5 w3 = w0 + 4096 * w2 + 1048576 * w4 + 128 * w1 + 32768 * w3 := r15_67 h0 h1 h2 h3 h4
 have q15 : un ((w3 : Nat) : Int) = w3 := un_small (by omega)
 have ey : ∀ (x a : Nat) (r : Int), stepR x (true, a, r) = putB x a 5 (un r) := fun _ _ _ => rfl
 have en : ∀ (x a : Nat) (r : Int), stepR x (false, a, r) = x := fun _ _ _ => rfl
 dsimp only
 rw [List.foldl_cons, List.foldl_cons, List.foldl_cons, List.foldl_nil, en, ey, ey, if_pos rfl, if_pos rfl, g7, g15, q7, q15, r7, r15]
 rw [hW]
 clear hW
 omega
theorem lp_72 : (laidS 72).1 = [(0, 6, 20)] := rfl
theorem v0_72 {w0 w1 w2 w3 w4 w5 : Nat} (h0 : w0 < 128) (h1 : w1 < 32) (h2 : w2 < 8) (h3 : w3 < 32) (h4 : w4 < 64) (h5 : w5 < 64) : (w0 + 128 * w1 + 4096 * w2 + 32768 * w3 + 1048576 * w4 + 67108864 * w5) / 2 ^ 20 % 2 ^ 6 = w4 := fld_mid (hi := w5) (lo := w0 + 128 * w1 + 4096 * w2 + 32768 * w3) (by first | (simp only [Nat.reduceAdd, Nat.reducePow]; omega) | (simp only [Nat.reduceAdd, Nat.reducePow]; done) | omega) (by first | (simp only [Nat.reduceAdd, Nat.reducePow]; omega) | (simp only [Nat.reduceAdd, Nat.reducePow]; done) | omega) (by first | (simp only [Nat.reduceAdd, Nat.reducePow]; omega) | (simp only [Nat.reduceAdd, Nat.reducePow]; done) | omega)
theorem s0_72 {w0 w1 w2 w3 w4 w5 : Nat} (h0 : w0 < 128) (h1 : w1 < 32) (h2 : w2 < 8) (h3 : w3 < 32) (h4 : w4 < 64) (h5 : w5 < 64) : putB (0) 0 6 w4 = w4 := (put_mid (hi := 0) (lo := 0) (by first | (simp only [Nat.reduceAdd, Nat.reducePow]; omega) | (simp only [Nat.reduceAdd, Nat.reducePow]; done) | omega) (by first | (simp only [Nat.reduceAdd, Nat.reducePow]; omega) | (simp only [Nat.reduceAdd, Nat.reducePow]; done) | omega) (by first | (simp only [Nat.reduceAdd, Nat.reducePow]; omega) | (simp only [Nat.reduceAdd, Nat.reducePow]; done) | omega)).trans (by first | (simp only [Nat.reduceAdd, Nat.reducePow]; omega) | (simp only [Nat.reduceAdd, Nat.reducePow]; done) | omega)
theorem x_72 {W w0 w1 w2 w3 w4 w5 : Nat} (hW : W = w0 + 128 * w1 + 4096 * w2 + 32768 * w3 + 1048576 * w4 + 67108864 * w5) (h0 : w0 < 128) (h1 : w1 < 32) (h2 : w2 < 8) (h3 : w3 < 32) (h4 : w4 < 64) (h5 : w5 < 64) : (laidS 72).1.foldl (readX W) 0 = w4 := by
 rw [lp_72]
 have v0 : W / 2 ^ 20 % 2 ^ 6 = w4 := by rw [hW]; exact v0_72 h0 h1 h2 h3 h4 h5
 have s0 : putB (0) 0 6 w4 = w4 := s0_72 h0 h1 h2 h3 h4 h5
 have e0 : ∀ x, readX W x (0, 6, 20) = putB x 0 6 (W / 2 ^ 20 % 2 ^ 6) := fun _ => rfl
 rw [List.foldl_cons, List.foldl_nil, e0, v0, s0]
theorem z0_72 {w0 w1 w2 w3 w4 w5 : Nat} (h0 : w0 < 128) (h1 : w1 < 32) (h2 : w2 < 8) (h3 : w3 < 32) (h4 : w4 < 64) (h5 : w5 < 64) : (w4) / 2 ^ 0 % 2 ^ 6 = w4 := fld_mid (hi := 0) (lo := 0) (by first | (simp only [Nat.reduceAdd, Nat.reducePow]; omega) | (simp only [Nat.reduceAdd, Nat.reducePow]; done) | omega) (by first | (simp only [Nat.reduceAdd, Nat.reducePow]; omega) | (simp only [Nat.reduceAdd, Nat.reducePow]; done) | omega) (by first | (simp only [Nat.reduceAdd, Nat.reducePow]; omega) | (simp only [Nat.reduceAdd, Nat.reducePow]; done) | omega)
theorem l0_72 {w0 w1 w2 w3 w4 w5 : Nat} (h0 : w0 < 128) (h1 : w1 < 32) (h2 : w2 < 8) (h3 : w3 < 32) (h4 : w4 < 64) (h5 : w5 < 64) : putB (w0 + 4096 * w2 + 67108864 * w5) 20 6 w4 = w0 + 4096 * w2 + 67108864 * w5 + 1048576 * w4 := (put_mid (hi := w5) (lo := w0 + 4096 * w2) (by first | (simp only [Nat.reduceAdd, Nat.reducePow]; omega) | (simp only [Nat.reduceAdd, Nat.reducePow]; done) | omega) (by first | (simp only [Nat.reduceAdd, Nat.reducePow]; omega) | (simp only [Nat.reduceAdd, Nat.reducePow]; done) | omega) (by first | (simp only [Nat.reduceAdd, Nat.reducePow]; omega) | (simp only [Nat.reduceAdd, Nat.reducePow]; done) | omega)).trans (by first | (simp only [Nat.reduceAdd, Nat.reducePow]; omega) | (simp only [Nat.reduceAdd, Nat.reducePow]; done) | omega)
theorem g7_72 {w0 w1 w2 w3 w4 w5 : Nat} (h0 : w0 < 128) (h1 : w1 < 32) (h2 : w2 < 8) (h3 : w3 < 32) (h4 : w4 < 64) (h5 : w5 < 64) : (w0 + 128 * w1 + 4096 * w2 + 32768 * w3 + 1048576 * w4 + 67108864 * w5) / 2 ^ 7 % 2 ^ 5 = w1 := fld_mid (hi := w2 + 8 * w3 + 256 * w4 + 16384 * w5) (lo := w0) (by first | (simp only [Nat.reduceAdd, Nat.reducePow]; omega) | (simp only [Nat.reduceAdd, Nat.reducePow]; done) | omega) (by first | (simp only [Nat.reduceAdd, Nat.reducePow]; omega) | (simp only [Nat.reduceAdd, Nat.reducePow]; done) | omega) (by first | (simp only [Nat.reduceAdd, Nat.reducePow]; omega) | (simp only [Nat.reduceAdd, Nat.reducePow]; done) | omega)
theorem r7_72 {w0 w1 w2 w3 w4 w5 : Nat} (h0 : w0 < 128) (h1 : w1 < 32) (h2 : w2 < 8) (h3 : w3 < 32) (h4 : w4 < 64) (h5 : w5 < 64) : putB (w0 + 4096 * w2 + 67108864 * w5 + 1048576 * w4) 7 5 w1 = w0 + 4096 * w2 + 67108864 * w5 + 1048576 * w4 + 128 * w1 := (put_mid (hi := w2 + 16384 * w5 + 256 * w4) (lo := w0) (by first | (simp only [Nat.reduceAdd, Nat.reducePow]; omega) | (simp only [Nat.reduceAdd, Nat.reducePow]; done) | omega) (by first | (simp only [Nat.reduceAdd, Nat.reducePow]; omega) | (simp only [Nat.reduceAdd, Nat.reducePow]; done) | omega) (by first | (simp only [Nat.reduceAdd, Nat.reducePow]; omega) | (simp only [Nat.reduceAdd, Nat.reducePow]; done) | omega)).trans (by first | (simp only [Nat.reduceAdd, Nat.reducePow]; omega) | (simp only [Nat.reduceAdd, Nat.reducePow]; done) | omega)
theorem g15_72 {w0 w1 w2 w3 w4 w5 : Nat} (h0 : w0 < 128) (h1 : w1 < 32) (h2 : w2 < 8) (h3 : w3 < 32) (h4 : w4 < 64) (h5 : w5 < 64) : (w0 + 128 * w1 + 4096 * w2 + 32768 * w3 + 1048576 * w4 + 67108864 * w5) / 2 ^ 15 % 2 ^ 5 = w3 := fld_mid (hi := w4 + 64 * w5) (lo := w0 + 128 * w1 + 4096 * w2) (by first | (simp only [Nat.reduceAdd, Nat.reducePow]; omega) | (simp only [Nat.reduceAdd, Nat.reducePow]; done) | omega) (by first | (simp only [Nat.reduceAdd, Nat.reducePow]; omega) | (simp only [Nat.reduceAdd, Nat.reducePow]; done) | omega) (by first | (simp only [Nat.reduceAdd, Nat.reducePow]; omega) | (simp only [Nat.reduceAdd, Nat.reducePow]; done) | omega)
theorem r15_72 {w0 w1 w2 w3 w4 w5 : Nat} (h0 : w0 < 128) (h1 : w1 < 32) (h2 : w2 < 8) (h3 : w3 < 32) (h4 : w4 < 64) (h5 : w5 < 64) : putB (w0 + 4096 * w2 + 67108864 * w5 + 1048576 * w4 + 128 * w1) 15 5 w3 = w0 + 4096 * w2 + 67108864 * w5 + 1048576 * w4 + 128 * w1 + 32768 * w3 := (put_mid (hi := 64 * w5 + w4) (lo := w0 + 4096 * w2 + 128 * w1) (by first | (simp only [Nat.reduceAdd, Nat.reducePow]; omega) | (simp only [Nat.reduceAdd, Nat.reducePow]; done) | omega) (by first | (simp only [Nat.reduceAdd, Nat.reducePow]; omega) | (simp only [Nat.reduceAdd, Nat.reducePow]; done) | omega) (by first | (simp only [Nat.reduceAdd, Nat.reducePow]; omega) | (simp only [Nat.reduceAdd, Nat.reducePow]; done) | omega)).trans (by first | (simp only [Nat.reduceAdd, Nat.reducePow]; omega) | (simp only [Nat.reduceAdd, Nat.reducePow]; done) | omega)
theorem w_72 {W w0 w1 w2 w3 w4 w5 : Nat} {im : Int} (hW : W = w0 + 128 * w1 + 4096 * w2 + 32768 * w3 + 1048576 * w4 + 67108864 * w5) (h0 : w0 < 128) (h1 : w1 < 32) (h2 : w2 < 8) (h3 : w3 < 32) (h4 : w4 < 64) (h5 : w5 < 64) (him : un im = ((laidS 72).1.foldl (readX W) 0)) : [((hasS 72).1, 7, if (hasS 72).1 = true then ((W / 2 ^ 7 % 2 ^ 5 : Nat) : Int) else 0), ((hasS 72).2.1, 15, if (hasS 72).2.1 = true then ((W / 2 ^ 15 % 2 ^ 5 : Nat) : Int) else 0), ((hasS 72).2.2, 20, if (hasS 72).2.2 = true then ((W / 2 ^ 20 % 2 ^ 5 : Nat) : Int) else 0)].foldl stepR ((laidS 72).1.foldl (layB im) (w0 + 4096 * w2 + 67108864 * w5)) = W := by
 have hx := x_72 hW h0 h1 h2 h3 h4 h5
 rw [hx] at him
 clear hx
 have eh : hasS 72 = (true, true, false) := rfl
 rw [eh]
 have z0 : (w4) / 2 ^ 0 % 2 ^ 6 = w4 := by exact z0_72 h0 h1 h2 h3 h4 h5
 have u0 : un im / 2 ^ 0 % 2 ^ 6 = w4 := by rw [him]; exact z0
 have l0 : putB (w0 + 4096 * w2 + 67108864 * w5) 20 6 w4 = w0 + 4096 * w2 + 67108864 * w5 + 1048576 * w4 := l0_72 h0 h1 h2 h3 h4 h5
 have hl : (laidS 72).1.foldl (layB im) (w0 + 4096 * w2 + 67108864 * w5) = w0 + 4096 * w2 + 67108864 * w5 + 1048576 * w4 := by
  rw [lp_72]
  have e0 : ∀ x, layB im x (0, 6, 20) = putB x 20 6 (un im / 2 ^ 0 % 2 ^ 6) := fun _ => rfl
  rw [List.foldl_cons, List.foldl_nil, e0, u0, l0]
 rw [hl]
 have g7 : W / 2 ^ 7 % 2 ^ 5 = w1 := by rw [hW]; exact g7_72 h0 h1 h2 h3 h4 h5
 have r7 : putB (w0 + 4096 * w2 + 67108864 * w5 + 1048576 * w4) 7 5 w1 = w0 + 4096 * w2 + 67108864 * w5 + 1048576 * w4 + 128 * w1 := r7_72 h0 h1 h2 h3 h4 h5
 have q7 : un ((w1 : Nat) : Int) = w1 := un_small (by omega)
 have g15 : W / 2 ^ 15 % 2 ^ 5 = w3 := by rw [hW]; exact g15_72 h0 h1 h2 h3 h4 h5
 have r15 : putB (w0 + 4096 * w2 + 67108864 * w5 + 1048576 * w4 + 128 * w1) 15 5 w3 = w0 + 4096 * w2 + 67108864 * w5 + 1048576 * w4 + 128 * w1 + 32768 * w3 := r15_72 h0 h1 h2 h3 h4 h5
 have q15 : un ((w3 : Nat) : Int) = w3 := un_small (by omega)
 have ey : ∀ (x a : Nat) (r : Int), stepR x (true, a, r) = putB x a 5 (un r) := fun _ _ _ => rfl
 have en : ∀ (x a : Nat) (r : Int), stepR x (false, a, r) = x := fun _ _ _ => rfl
 dsimp only
 rw [List.foldl_cons, List.foldl_cons, List.foldl_cons, List.foldl_nil, en, ey, ey, if_pos rfl, if_pos rfl, g7, g15, q7, q15, r7, r15]
 rw [hW]
 clear hW
 omega
theorem lp_83 : (laidS 83).1 = [(0, 5, 7), (5, 7, 25)] := rfl
theorem v0_83 {w0 w1 w2 w3 w4 w5 : Nat} (h0 : w0 < 128) (h1 : w1 < 32) (h2 : w2 < 8) (h3 : w3 < 32) (h4 : w4 < 32) (h5 : w5 < 128) : (w0 + 128 * w1 + 4096 * w2 + 32768 * w3 + 1048576 * w4 + 33554432 * w5) / 2 ^ 7 % 2 ^ 5 = w1 := fld_mid (hi := w2 + 8 * w3 + 256 * w4 + 8192 * w5) (lo := w0) (by first | (simp only [Nat.reduceAdd, Nat.reducePow]; omega) | (simp only [Nat.reduceAdd, Nat.reducePow]; done) | omega) (by first | (simp only [Nat.reduceAdd, Nat.reducePow]; omega) | (simp only [Nat.reduceAdd, Nat.reducePow]; done) | omega) (by first | (simp only [Nat.reduceAdd, Nat.reducePow]; omega) | (simp only [Nat.reduceAdd, Nat.reducePow]; done) | omega)
theorem v1_83 {w0 w1 w2 w3 w4 w5 : Nat} (h0 : w0 < 128) (h1 : w1 < 32) (h2 : w2 < 8) (h3 : w3 < 32) (h4 : w4 < 32) (h5 : w5 < 128) : (w0 + 128 * w1 + 4096 * w2 + 32768 * w3 + 1048576 * w4 + 33554432 * w5) / 2 ^ 25 % 2 ^ 7 = w5 := fld_mid (hi := 0) (lo := w0 + 128 * w1 + 4096 * w2 + 32768 * w3 + 1048576 * w4) (by first | (simp only [Nat.reduceAdd, Nat.reducePow]; omega) | (simp only [Nat.reduceAdd, Nat.reducePow]; done) | omega) (by first | (simp only [Nat.reduceAdd, Nat.reducePow]; omega) | (simp only [Nat.reduceAdd, Nat.reducePow]; done) | omega) (by first | (simp only [Nat.reduceAdd, Nat.reducePow]; omega) | (simp only [Nat.reduceAdd, Nat.reducePow]; done) | omega)
theorem s0_83 {w0 w1 w2 w3 w4 w5 : Nat} (h0 : w0 < 128) (h1 : w1 < 32) (h2 : w2 < 8) (h3 : w3 < 32) (h4 : w4 < 32) (h5 : w5 < 128) : putB (0) 0 5 w1 = w1 := (put_mid (hi := 0) (lo := 0) (by first | (simp only [Nat.reduceAdd, Nat.reducePow]; omega) | (simp only [Nat.reduceAdd, Nat.reducePow]; done) | omega) (by first | (simp only [Nat.reduceAdd, Nat.reducePow]; omega) | (simp only [Nat.reduceAdd, Nat.reducePow]; done) | omega) (by first | (simp only [Nat.reduceAdd, Nat.reducePow]; omega) | (simp only [Nat.reduceAdd, Nat.reducePow]; done) | omega)).trans (by first | (simp only [Nat.reduceAdd, Nat.reducePow]; omega) | (simp only [Nat.reduceAdd, Nat.reducePow]; done) | omega)
theorem s1_83 {w0 w1 w2 w3 w4 w5 : Nat} (h0 : w0 < 128) (h1 : w1 < 32) (h2 : w2 < 8) (h3 : w3 < 32) (h4 : w4 < 32) (h5 : w5 < 128) : putB (w1) 5 7 w5 = w1 + 32 * w5 := (put_mid (hi := 0) (lo := w1) (by first | (simp only [Nat.reduceAdd, Nat.reducePow]; omega) | (simp only [Nat.reduceAdd, Nat.reducePow]; done) | omega) (by first | (simp only [Nat.reduceAdd, Nat.reducePow]; omega) | (simp only [Nat.reduceAdd, Nat.reducePow]; done) | omega) (by first | (simp only [Nat.reduceAdd, Nat.reducePow]; omega) | (simp only [Nat.reduceAdd, Nat.reducePow]; done) | omega)).trans (by first | (simp only [Nat.reduceAdd, Nat.reducePow]; omega) | (simp only [Nat.reduceAdd, Nat.reducePow]; done) | omega)
theorem x_83 {W w0 w1 w2 w3 w4 w5 : Nat} (hW : W = w0 + 128 * w1 + 4096 * w2 + 32768 * w3 + 1048576 * w4 + 33554432 * w5) (h0 : w0 < 128) (h1 : w1 < 32) (h2 : w2 < 8) (h3 : w3 < 32) (h4 : w4 < 32) (h5 : w5 < 128) : (laidS 83).1.foldl (readX W) 0 = w1 + 32 * w5 := by
 rw [lp_83]
 have v0 : W / 2 ^ 7 % 2 ^ 5 = w1 := by rw [hW]; exact v0_83 h0 h1 h2 h3 h4 h5
 have v1 : W / 2 ^ 25 % 2 ^ 7 = w5 := by rw [hW]; exact v1_83 h0 h1 h2 h3 h4 h5
 have s0 : putB (0) 0 5 w1 = w1 := s0_83 h0 h1 h2 h3 h4 h5
 have e0 : ∀ x, readX W x (0, 5, 7) = putB x 0 5 (W / 2 ^ 7 % 2 ^ 5) := fun _ => rfl
 have s1 : putB (w1) 5 7 w5 = w1 + 32 * w5 := s1_83 h0 h1 h2 h3 h4 h5
 have e1 : ∀ x, readX W x (5, 7, 25) = putB x 5 7 (W / 2 ^ 25 % 2 ^ 7) := fun _ => rfl
 rw [List.foldl_cons, List.foldl_cons, List.foldl_nil, e0, v0, s0, e1, v1, s1]
theorem z0_83 {w0 w1 w2 w3 w4 w5 : Nat} (h0 : w0 < 128) (h1 : w1 < 32) (h2 : w2 < 8) (h3 : w3 < 32) (h4 : w4 < 32) (h5 : w5 < 128) : (w1 + 32 * w5) / 2 ^ 0 % 2 ^ 5 = w1 := fld_mid (hi := w5) (lo := 0) (by first | (simp only [Nat.reduceAdd, Nat.reducePow]; omega) | (simp only [Nat.reduceAdd, Nat.reducePow]; done) | omega) (by first | (simp only [Nat.reduceAdd, Nat.reducePow]; omega) | (simp only [Nat.reduceAdd, Nat.reducePow]; done) | omega) (by first | (simp only [Nat.reduceAdd, Nat.reducePow]; omega) | (simp only [Nat.reduceAdd, Nat.reducePow]; done) | omega)
theorem z1_83 {w0 w1 w2 w3 w4 w5 : Nat} (h0 : w0 < 128) (h1 : w1 < 32) (h2 : w2 < 8) (h3 : w3 < 32) (h4 : w4 < 32) (h5 : w5 < 128) : (w1 + 32 * w5) / 2 ^ 5 % 2 ^ 7 = w5 := fld_mid (hi := 0) (lo := w1) (by first | (simp only [Nat.reduceAdd, Nat.reducePow]; omega) | (simp only [Nat.reduceAdd, Nat.reducePow]; done) | omega) (by first | (simp only [Nat.reduceAdd, Nat.reducePow]; omega) | (simp only [Nat.reduceAdd, Nat.reducePow]; done) | omega) (by first | (simp only [Nat.reduceAdd, Nat.reducePow]; omega) | (simp only [Nat.reduceAdd, Nat.reducePow]; done) | omega)
theorem l0_83 {w0 w1 w2 w3 w4 w5 : Nat} (h0 : w0 < 128) (h1 : w1 < 32) (h2 : w2 < 8) (h3 : w3 < 32) (h4 : w4 < 32) (h5 : w5 < 128) : putB (w0 + 4096 * w2) 7 5 w1 = w0 + 4096 * w2 + 128 * w1 := (put_mid (hi := w2) (lo := w0) (by first | (simp only [Nat.reduceAdd, Nat.reducePow]; omega) | (simp only [Nat.reduceAdd, Nat.reducePow]; done) | omega) (by first | (simp only [Nat.reduceAdd, Nat.reducePow]; omega) | (simp only [Nat.reduceAdd, Nat.reducePow]; done) | omega) (by first | (simp only [Nat.reduceAdd, Nat.reducePow]; omega) | (simp only [Nat.reduceAdd, Nat.reducePow]; done) | omega)).trans (by first | (simp only [Nat.reduceAdd, Nat.reducePow]; omega) | (simp only [Nat.reduceAdd, Nat.reducePow]; done) | omega)
theorem l1_83 {w0 w1 w2 w3 w4 w5 : Nat} (h0 : w0 < 128) (h1 : w1 < 32) (h2 : w2 < 8) (h3 : w3 < 32) (h4 : w4 < 32) (h5 : w5 < 128) : putB (w0 + 4096 * w2 + 128 * w1) 25 7 w5 = w0 + 4096 * w2 + 128 * w1 + 33554432 * w5 := (put_mid (hi := 0) (lo := w0 + 4096 * w2 + 128 * w1) (by first | (simp only [Nat.reduceAdd, Nat.reducePow]; omega) | (simp only [Nat.reduceAdd, Nat.reducePow]; done) | omega) (by first | (simp only [Nat.reduceAdd, Nat.reducePow]; omega) | (simp only [Nat.reduceAdd, Nat.reducePow]; done) | omega) (by first | (simp only [Nat.reduceAdd, Nat.reducePow]; omega) | (simp only [Nat.reduceAdd, Nat.reducePow]; done) | omega)).trans (by first | (simp only [Nat.reduceAdd, Nat.reducePow]; omega) | (simp only [Nat.reduceAdd, Nat.reducePow]; done) | omega)
theorem g15_83 {w0 w1 w2 w3 w4 w5 : Nat} (h0 : w0 < 128) (h1 : w1 < 32) (h2 : w2 < 8) (h3 : w3 < 32) (h4 : w4 < 32) (h5 : w5 < 128) : (w0 + 128 * w1 + 4096 * w2 + 32768 * w3 + 1048576 * w4 + 33554432 * w5) / 2 ^ 15 % 2 ^ 5 = w3 := fld_mid (hi := w4 + 32 * w5) (lo := w0 + 128 * w1 + 4096 * w2) (by first | (simp only [Nat.reduceAdd, Nat.reducePow]; omega) | (simp only [Nat.reduceAdd, Nat.reducePow]; done) | omega) (by first | (simp only [Nat.reduceAdd, Nat.reducePow]; omega) | (simp only [Nat.reduceAdd, Nat.reducePow]; done) | omega) (by first | (simp only [Nat.reduceAdd, Nat.reducePow]; omega) | (simp only [Nat.reduceAdd, Nat.reducePow]; done) | omega)
theorem r15_83 {w0 w1 w2 w3 w4 w5 : Nat} (h0 : w0 < 128) (h1 : w1 < 32) (h2 : w2 < 8) (h3 : w3 < 32) (h4 : w4 < 32) (h5 : w5 < 128) : putB (w0 + 4096 * w2 + 128 * w1 + 33554432 * w5) 15 5 w3 = w0 + 4096 * w2 + 128 * w1 + 33554432 * w5 + 32768 * w3 := (put_mid (hi := 32 * w5) (lo := w0 + 4096 * w2 + 128 * w1) (by first | (simp only [Nat.reduceAdd, Nat.reducePow]; omega) | (simp only [Nat.reduceAdd, Nat.reducePow]; done) | omega) (by first | (simp only [Nat.reduceAdd, Nat.reducePow]; omega) | (simp only [Nat.reduceAdd, Nat.reducePow]; done) | omega) (by first | (simp only [Nat.reduceAdd, Nat.reducePow]; omega) | (simp only [Nat.reduceAdd, Nat.reducePow]; done) | omega)).trans (by first | (simp only [Nat.reduceAdd, Nat.reducePow]; omega) | (simp only [Nat.reduceAdd, Nat.reducePow]; done) | omega)
theorem g20_83 {w0 w1 w2 w3 w4 w5 : Nat} (h0 : w0 < 128) (h1 : w1 < 32) (h2 : w2 < 8) (h3 : w3 < 32) (h4 : w4 < 32) (h5 : w5 < 128) : (w0 + 128 * w1 + 4096 * w2 + 32768 * w3 + 1048576 * w4 + 33554432 * w5) / 2 ^ 20 % 2 ^ 5 = w4 := fld_mid (hi := w5) (lo := w0 + 128 * w1 + 4096 * w2 + 32768 * w3) (by first | (simp only [Nat.reduceAdd, Nat.reducePow]; omega) | (simp only [Nat.reduceAdd, Nat.reducePow]; done) | omega) (by first | (simp only [Nat.reduceAdd, Nat.reducePow]; omega) | (simp only [Nat.reduceAdd, Nat.reducePow]; done) | omega) (by first | (simp only [Nat.reduceAdd, Nat.reducePow]; omega) | (simp only [Nat.reduceAdd, Nat.reducePow]; done) | omega)
theorem r20_83 {w0 w1 w2 w3 w4 w5 : Nat} (h0 : w0 < 128) (h1 : w1 < 32) (h2 : w2 < 8) (h3 : w3 < 32) (h4 : w4 < 32) (h5 : w5 < 128) : putB (w0 + 4096 * w2 + 128 * w1 + 33554432 * w5 + 32768 * w3) 20 5 w4 = w0 + 4096 * w2 + 128 * w1 + 33554432 * w5 + 32768 * w3 + 1048576 * w4 := (put_mid (hi := w5) (lo := w0 + 4096 * w2 + 128 * w1 + 32768 * w3) (by first | (simp only [Nat.reduceAdd, Nat.reducePow]; omega) | (simp only [Nat.reduceAdd, Nat.reducePow]; done) | omega) (by first | (simp only [Nat.reduceAdd, Nat.reducePow]; omega) | (simp only [Nat.reduceAdd, Nat.reducePow]; done) | omega) (by first | (simp only [Nat.reduceAdd, Nat.reducePow]; omega) | (simp only [Nat.reduceAdd, Nat.reducePow]; done) | omega)).trans (by first | (simp only [Nat.reduceAdd, Nat.reducePow]; omega) | (simp only [Nat.reduceAdd, Nat.reducePow]; done) | omega)
theorem w_83 {W w0 w1 w2 w3 w4 w5 : Nat} {im : Int} (hW : W = w0 + 128 * w1 + 4096 * w2 + 32768 * w3 + 1048576 * w4 + 33554432 * w5) (h0 : w0 < 128) (h1 : w1 < 32) (h2 : w2 < 8) (h3 : w3 < 32) (h4 : w4 < 32) (h5 : w5 < 128) (him : un im = signN ((laidS 83).1.foldl (readX W) 0) 12) : [((hasS 83).1, 7, if (hasS 83).1 = true then ((W / 2 ^ 7 % 2 ^ 5 : Nat) : Int) else 0), ((hasS 83).2.1, 15, if (hasS 83).2.1 = true then ((W / 2 ^ 15 % 2 ^ 5 : Nat) : Int) else 0), ((hasS 83).2.2, 20, if (hasS 83).2.2 = true then ((W / 2 ^ 20 % 2 ^ 5 : Nat) : Int) else 0)].foldl stepR ((laidS 83).1.foldl (layB im) (w0 + 4096 * w2)) = W := by
 have hx := x_83 hW h0 h1 h2 h3 h4 h5
 rw [hx] at him
 clear hx
 have eh : hasS 83 = (false, true, true) := rfl
 rw [eh]
 have z0 : (w1 + 32 * w5) / 2 ^ 0 % 2 ^ 5 = w1 := by exact z0_83 h0 h1 h2 h3 h4 h5
 have u0 : un im / 2 ^ 0 % 2 ^ 5 = w1 := by rw [him, sign_piece (by decide) (by decide)]; exact z0
 have z1 : (w1 + 32 * w5) / 2 ^ 5 % 2 ^ 7 = w5 := by exact z1_83 h0 h1 h2 h3 h4 h5
 have u1 : un im / 2 ^ 5 % 2 ^ 7 = w5 := by rw [him, sign_piece (by decide) (by decide)]; exact z1
 have l0 : putB (w0 + 4096 * w2) 7 5 w1 = w0 + 4096 * w2 + 128 * w1 := l0_83 h0 h1 h2 h3 h4 h5
 have l1 : putB (w0 + 4096 * w2 + 128 * w1) 25 7 w5 = w0 + 4096 * w2 + 128 * w1 + 33554432 * w5 := l1_83 h0 h1 h2 h3 h4 h5
 have hl : (laidS 83).1.foldl (layB im) (w0 + 4096 * w2) = w0 + 4096 * w2 + 128 * w1 + 33554432 * w5 := by
  rw [lp_83]
  have e0 : ∀ x, layB im x (0, 5, 7) = putB x 7 5 (un im / 2 ^ 0 % 2 ^ 5) := fun _ => rfl
  have e1 : ∀ x, layB im x (5, 7, 25) = putB x 25 7 (un im / 2 ^ 5 % 2 ^ 7) := fun _ => rfl
  rw [List.foldl_cons, List.foldl_cons, List.foldl_nil, e0, u0, l0, e1, u1, l1]
 rw [hl]
 have g15 : W / 2 ^ 15 % 2 ^ 5 = w3 := by rw [hW]; exact g15_83 h0 h1 h2 h3 h4 h5
 have r15 : putB (w0 + 4096 * w2 + 128 * w1 + 33554432 * w5) 15 5 w3 = w0 + 4096 * w2 + 128 * w1 + 33554432 * w5 + 32768 * w3 := r15_83 h0 h1 h2 h3 h4 h5
 have q15 : un ((w3 : Nat) : Int) = w3 := un_small (by omega)
 have g20 : W / 2 ^ 20 % 2 ^ 5 = w4 := by rw [hW]; exact g20_83 h0 h1 h2 h3 h4 h5
 have r20 : putB (w0 + 4096 * w2 + 128 * w1 + 33554432 * w5 + 32768 * w3) 20 5 w4 = w0 + 4096 * w2 + 128 * w1 + 33554432 * w5 + 32768 * w3 + 1048576 * w4 := r20_83 h0 h1 h2 h3 h4 h5
 have q20 : un ((w4 : Nat) : Int) = w4 := un_small (by omega)
 have ey : ∀ (x a : Nat) (r : Int), stepR x (true, a, r) = putB x a 5 (un r) := fun _ _ _ => rfl
 have en : ∀ (x a : Nat) (r : Int), stepR x (false, a, r) = x := fun _ _ _ => rfl
 dsimp only
 rw [List.foldl_cons, List.foldl_cons, List.foldl_cons, List.foldl_nil, ey, ey, en, if_pos rfl, if_pos rfl, g15, g20, q15, q20, r15, r20]
 rw [hW]
 clear hW
 omega
theorem lp_66 : (laidS 66).1 = [(1, 4, 8), (5, 6, 25), (11, 1, 7), (12, 1, 31)] := rfl
theorem v0_66 {w0 w1 w2 w3 w4 w5 w6 w7 : Nat} (h0 : w0 < 128) (h1 : w1 < 2) (h2 : w2 < 16) (h3 : w3 < 8) (h4 : w4 < 32) (h5 : w5 < 32) (h6 : w6 < 64) (h7 : w7 < 2) : (w0 + 128 * w1 + 256 * w2 + 4096 * w3 + 32768 * w4 + 1048576 * w5 + 33554432 * w6 + 2147483648 * w7) / 2 ^ 8 % 2 ^ 4 = w2 := fld_mid (hi := w3 + 8 * w4 + 256 * w5 + 8192 * w6 + 524288 * w7) (lo := w0 + 128 * w1) (by first | (simp only [Nat.reduceAdd, Nat.reducePow]; omega) | (simp only [Nat.reduceAdd, Nat.reducePow]; done) | omega) (by first | (simp only [Nat.reduceAdd, Nat.reducePow]; omega) | (simp only [Nat.reduceAdd, Nat.reducePow]; done) | omega) (by first | (simp only [Nat.reduceAdd, Nat.reducePow]; omega) | (simp only [Nat.reduceAdd, Nat.reducePow]; done) | omega)
theorem v1_66 {w0 w1 w2 w3 w4 w5 w6 w7 : Nat} (h0 : w0 < 128) (h1 : w1 < 2) (h2 : w2 < 16) (h3 : w3 < 8) (h4 : w4 < 32) (h5 : w5 < 32) (h6 : w6 < 64) (h7 : w7 < 2) : (w0 + 128 * w1 + 256 * w2 + 4096 * w3 + 32768 * w4 + 1048576 * w5 + 33554432 * w6 + 2147483648 * w7) / 2 ^ 25 % 2 ^ 6 = w6 := fld_mid (hi := w7) (lo := w0 + 128 * w1 + 256 * w2 + 4096 * w3 + 32768 * w4 + 1048576 * w5) (by first | (simp only [Nat.reduceAdd, Nat.reducePow]; omega) | (simp only [Nat.reduceAdd, Nat.reducePow]; done) | omega) (by first | (simp only [Nat.reduceAdd, Nat.reducePow]; omega) | (simp only [Nat.reduceAdd, Nat.reducePow]; done) | omega) (by first | (simp only [Nat.reduceAdd, Nat.reducePow]; omega) | (simp only [Nat.reduceAdd, Nat.reducePow]; done) | omega)
theorem v2_66 {w0 w1 w2 w3 w4 w5 w6 w7 : Nat} (h0 : w0 < 128) (h1 : w1 < 2) (h2 : w2 < 16) (h3 : w3 < 8) (h4 : w4 < 32) (h5 : w5 < 32) (h6 : w6 < 64) (h7 : w7 < 2) : (w0 + 128 * w1 + 256 * w2 + 4096 * w3 + 32768 * w4 + 1048576 * w5 + 33554432 * w6 + 2147483648 * w7) / 2 ^ 7 % 2 ^ 1 = w1 := fld_mid (hi := w2 + 16 * w3 + 128 * w4 + 4096 * w5 + 131072 * w6 + 8388608 * w7) (lo := w0) (by first | (simp only [Nat.reduceAdd, Nat.reducePow]; omega) | (simp only [Nat.reduceAdd, Nat.reducePow]; done) | omega) (by first | (simp only [Nat.reduceAdd, Nat.reducePow]; omega) | (simp only [Nat.reduceAdd, Nat.reducePow]; done) | omega) (by first | (simp only [Nat.reduceAdd, Nat.reducePow]; omega) | (simp only [Nat.reduceAdd, Nat.reducePow]; done) | omega)
theorem v3_66 {w0 w1 w2 w3 w4 w5 w6 w7 : Nat} (h0 : w0 < 128) (h1 : w1 < 2) (h2 : w2 < 16) (h3 : w3 < 8) (h4 : w4 < 32) (h5 : w5 < 32) (h6 : w6 < 64) (h7 : w7 < 2) : (w0 + 128 * w1 + 256 * w2 + 4096 * w3 + 32768 * w4 + 1048576 * w5 + 33554432 * w6 + 2147483648 * w7) / 2 ^ 31 % 2 ^ 1 = w7 := fld_mid (hi := 0) (lo := w0 + 128 * w1 + 256 * w2 + 4096 * w3 + 32768 * w4 + 1048576 * w5 + 33554432 * w6) (by first | (simp only [Nat.reduceAdd, Nat.reducePow]; omega) | (simp only [Nat.reduceAdd, Nat.reducePow]; done) | omega) (by first | (simp only [Nat.reduceAdd, Nat.reducePow]; omega) | (simp only [Nat.reduceAdd, Nat.reducePow]; done) | omega) (by first | (simp only [Nat.reduceAdd, Nat.reducePow]; omega) | (simp only [Nat.reduceAdd, Nat.reducePow]; done) | omega)
theorem s0_66 {w0 w1 w2 w3 w4 w5 w6 w7 : Nat} (h0 : w0 < 128) (h1 : w1 < 2) (h2 : w2 < 16) (h3 : w3 < 8) (h4 : w4 < 32) (h5 : w5 < 32) (h6 : w6 < 64) (h7 : w7 < 2) : putB (0) 1 4 w2 = 2 * w2 := (put_mid (hi := 0) (lo := 0) (by first | (simp only [Nat.reduceAdd, Nat.reducePow]; omega) | (simp only [Nat.reduceAdd, Nat.reducePow]; done) | omega) (by first | (simp only [Nat.reduceAdd, Nat.reducePow]; omega) | (simp only [Nat.reduceAdd, Nat.reducePow]; done) | omega) (by first | (simp only [Nat.reduceAdd, Nat.reducePow]; omega) | (simp only [Nat.reduceAdd, Nat.reducePow]; done) | omega)).trans (by first | (simp only [Nat.reduceAdd, Nat.reducePow]; omega) | (simp only [Nat.reduceAdd, Nat.reducePow]; done) | omega)
theorem s1_66 {w0 w1 w2 w3 w4 w5 w6 w7 : Nat} (h0 : w0 < 128) (h1 : w1 < 2) (h2 : w2 < 16) (h3 : w3 < 8) (h4 : w4 < 32) (h5 : w5 < 32) (h6 : w6 < 64) (h7 : w7 < 2) : putB (2 * w2) 5 6 w6 = 2 * w2 + 32 * w6 := (put_mid (hi := 0) (lo := 2 * w2) (by first | (simp only [Nat.reduceAdd, Nat.reducePow]; omega) | (simp only [Nat.reduceAdd, Nat.reducePow]; done) | omega) (by first | (simp only [Nat.reduceAdd, Nat.reducePow]; omega) | (simp only [Nat.reduceAdd, Nat.reducePow]; done) | omega) (by first | (simp only [Nat.reduceAdd, Nat.reducePow]; omega) | (simp only [Nat.reduceAdd, Nat.reducePow]; done) | omega)).trans (by first | (simp only [Nat.reduceAdd, Nat.reducePow]; omega) | (simp only [Nat.reduceAdd, Nat.reducePow]; done) | omega)
theorem s2_66 {w0 w1 w2 w3 w4 w5 w6 w7 : Nat} (h0 : w0 < 128) (h1 : w1 < 2) (h2 : w2 < 16) (h3 : w3 < 8) (h4 : w4 < 32) (h5 : w5 < 32) (h6 : w6 < 64) (h7 : w7 < 2) : putB (2 * w2 + 32 * w6) 11 1 w1 = 2 * w2 + 32 * w6 + 2048 * w1 := (put_mid (hi := 0) (lo := 2 * w2 + 32 * w6) (by first | (simp only [Nat.reduceAdd, Nat.reducePow]; omega) | (simp only [Nat.reduceAdd, Nat.reducePow]; done) | omega) (by first | (simp only [Nat.reduceAdd, Nat.reducePow]; omega) | (simp only [Nat.reduceAdd, Nat.reducePow]; done) | omega) (by first | (simp only [Nat.reduceAdd, Nat.reducePow]; omega) | (simp only [Nat.reduceAdd, Nat.reducePow]; done) | omega)).trans (by first | (simp only [Nat.reduceAdd, Nat.reducePow]; omega) | (simp only [Nat.reduceAdd, Nat.reducePow]; done) | omega)
theorem s3_66 {w0 w1 w2 w3 w4 w5 w6 w7 : Nat} (h0 : w0 < 128) (h1 : w1 < 2) (h2 : w2 < 16) (h3 : w3 < 8) (h4 : w4 < 32) (h5 : w5 < 32) (h6 : w6 < 64) (h7 : w7 < 2) : putB (2 * w2 + 32 * w6 + 2048 * w1) 12 1 w7 = 2 * w2 + 32 * w6 + 2048 * w1 + 4096 * w7 := (put_mid (hi := 0) (lo := 2 * w2 + 32 * w6 + 2048 * w1) (by first | (simp only [Nat.reduceAdd, Nat.reducePow]; omega) | (simp only [Nat.reduceAdd, Nat.reducePow]; done) | omega) (by first | (simp only [Nat.reduceAdd, Nat.reducePow]; omega) | (simp only [Nat.reduceAdd, Nat.reducePow]; done) | omega) (by first | (simp only [Nat.reduceAdd, Nat.reducePow]; omega) | (simp only [Nat.reduceAdd, Nat.reducePow]; done) | omega)).trans (by first | (simp only [Nat.reduceAdd, Nat.reducePow]; omega) | (simp only [Nat.reduceAdd, Nat.reducePow]; done) | omega)
theorem x_66 {W w0 w1 w2 w3 w4 w5 w6 w7 : Nat} (hW : W = w0 + 128 * w1 + 256 * w2 + 4096 * w3 + 32768 * w4 + 1048576 * w5 + 33554432 * w6 + 2147483648 * w7) (h0 : w0 < 128) (h1 : w1 < 2) (h2 : w2 < 16) (h3 : w3 < 8) (h4 : w4 < 32) (h5 : w5 < 32) (h6 : w6 < 64) (h7 : w7 < 2) : (laidS 66).1.foldl (readX W) 0 = 2 * w2 + 32 * w6 + 2048 * w1 + 4096 * w7 := by
 rw [lp_66]
 have v0 : W / 2 ^ 8 % 2 ^ 4 = w2 := by rw [hW]; exact v0_66 h0 h1 h2 h3 h4 h5 h6 h7
 have v1 : W / 2 ^ 25 % 2 ^ 6 = w6 := by rw [hW]; exact v1_66 h0 h1 h2 h3 h4 h5 h6 h7
 have v2 : W / 2 ^ 7 % 2 ^ 1 = w1 := by rw [hW]; exact v2_66 h0 h1 h2 h3 h4 h5 h6 h7
 have v3 : W / 2 ^ 31 % 2 ^ 1 = w7 := by rw [hW]; exact v3_66 h0 h1 h2 h3 h4 h5 h6 h7
 have s0 : putB (0) 1 4 w2 = 2 * w2 := s0_66 h0 h1 h2 h3 h4 h5 h6 h7
 have e0 : ∀ x, readX W x (1, 4, 8) = putB x 1 4 (W / 2 ^ 8 % 2 ^ 4) := fun _ => rfl
 have s1 : putB (2 * w2) 5 6 w6 = 2 * w2 + 32 * w6 := s1_66 h0 h1 h2 h3 h4 h5 h6 h7
 have e1 : ∀ x, readX W x (5, 6, 25) = putB x 5 6 (W / 2 ^ 25 % 2 ^ 6) := fun _ => rfl
 have s2 : putB (2 * w2 + 32 * w6) 11 1 w1 = 2 * w2 + 32 * w6 + 2048 * w1 := s2_66 h0 h1 h2 h3 h4 h5 h6 h7
 have e2 : ∀ x, readX W x (11, 1, 7) = putB x 11 1 (W / 2 ^ 7 % 2 ^ 1) := fun _ => rfl
 have s3 : putB (2 * w2 + 32 * w6 + 2048 * w1) 12 1 w7 = 2 * w2 + 32 * w6 + 2048 * w1 + 4096 * w7 := s3_66 h0 h1 h2 h3 h4 h5 h6 h7
 have e3 : ∀ x, readX W x (12, 1, 31) = putB x 12 1 (W / 2 ^ 31 % 2 ^ 1) := fun _ => rfl
 rw [List.foldl_cons, List.foldl_cons, List.foldl_cons, List.foldl_cons, List.foldl_nil, e0, v0, s0, e1, v1, s1, e2, v2, s2, e3, v3, s3]
theorem z0_66 {w0 w1 w2 w3 w4 w5 w6 w7 : Nat} (h0 : w0 < 128) (h1 : w1 < 2) (h2 : w2 < 16) (h3 : w3 < 8) (h4 : w4 < 32) (h5 : w5 < 32) (h6 : w6 < 64) (h7 : w7 < 2) : (2 * w2 + 32 * w6 + 2048 * w1 + 4096 * w7) / 2 ^ 1 % 2 ^ 4 = w2 := fld_mid (hi := w6 + 64 * w1 + 128 * w7) (lo := 0) (by first | (simp only [Nat.reduceAdd, Nat.reducePow]; omega) | (simp only [Nat.reduceAdd, Nat.reducePow]; done) | omega) (by first | (simp only [Nat.reduceAdd, Nat.reducePow]; omega) | (simp only [Nat.reduceAdd, Nat.reducePow]; done) | omega) (by first | (simp only [Nat.reduceAdd, Nat.reducePow]; omega) | (simp only [Nat.reduceAdd, Nat.reducePow]; done) | omega)
theorem z1_66 {w0 w1 w2 w3 w4 w5 w6 w7 : Nat} (h0 : w0 < 128) (h1 : w1 < 2) (h2 : w2 < 16) (h3 : w3 < 8) (h4 : w4 < 32) (h5 : w5 < 32) (h6 : w6 < 64) (h7 : w7 < 2) : (2 * w2 + 32 * w6 + 2048 * w1 + 4096 * w7) / 2 ^ 5 % 2 ^ 6 = w6 := fld_mid (hi := w1 + 2 * w7) (lo := 2 * w2) (by first | (simp only [Nat.reduceAdd, Nat.reducePow]; omega) | (simp only [Nat.reduceAdd, Nat.reducePow]; done) | omega) (by first | (simp only [Nat.reduceAdd, Nat.reducePow]; omega) | (simp only [Nat.reduceAdd, Nat.reducePow]; done) | omega) (by first | (simp only [Nat.reduceAdd, Nat.reducePow]; omega) | (simp only [Nat.reduceAdd, Nat.reducePow]; done) | omega)
theorem z2_66 {w0 w1 w2 w3 w4 w5 w6 w7 : Nat} (h0 : w0 < 128) (h1 : w1 < 2) (h2 : w2 < 16) (h3 : w3 < 8) (h4 : w4 < 32) (h5 : w5 < 32) (h6 : w6 < 64) (h7 : w7 < 2) : (2 * w2 + 32 * w6 + 2048 * w1 + 4096 * w7) / 2 ^ 11 % 2 ^ 1 = w1 := fld_mid (hi := w7) (lo := 2 * w2 + 32 * w6) (by first | (simp only [Nat.reduceAdd, Nat.reducePow]; omega) | (simp only [Nat.reduceAdd, Nat.reducePow]; done) | omega) (by first | (simp only [Nat.reduceAdd, Nat.reducePow]; omega) | (simp only [Nat.reduceAdd, Nat.reducePow]; done) | omega) (by first | (simp only [Nat.reduceAdd, Nat.reducePow]; omega) | (simp only [Nat.reduceAdd, Nat.reducePow]; done) | omega)
theorem z3_66 {w0 w1 w2 w3 w4 w5 w6 w7 : Nat} (h0 : w0 < 128) (h1 : w1 < 2) (h2 : w2 < 16) (h3 : w3 < 8) (h4 : w4 < 32) (h5 : w5 < 32) (h6 : w6 < 64) (h7 : w7 < 2) : (2 * w2 + 32 * w6 + 2048 * w1 + 4096 * w7) / 2 ^ 12 % 2 ^ 1 = w7 := fld_mid (hi := 0) (lo := 2 * w2 + 32 * w6 + 2048 * w1) (by first | (simp only [Nat.reduceAdd, Nat.reducePow]; omega) | (simp only [Nat.reduceAdd, Nat.reducePow]; done) | omega) (by first | (simp only [Nat.reduceAdd, Nat.reducePow]; omega) | (simp only [Nat.reduceAdd, Nat.reducePow]; done) | omega) (by first | (simp only [Nat.reduceAdd, Nat.reducePow]; omega) | (simp only [Nat.reduceAdd, Nat.reducePow]; done) | omega)
theorem l0_66 {w0 w1 w2 w3 w4 w5 w6 w7 : Nat} (h0 : w0 < 128) (h1 : w1 < 2) (h2 : w2 < 16) (h3 : w3 < 8) (h4 : w4 < 32) (h5 : w5 < 32) (h6 : w6 < 64) (h7 : w7 < 2) : putB (w0 + 4096 * w3) 8 4 w2 = w0 + 4096 * w3 + 256 * w2 := (put_mid (hi := w3) (lo := w0) (by first | (simp only [Nat.reduceAdd, Nat.reducePow]; omega) | (simp only [Nat.reduceAdd, Nat.reducePow]; done) | omega) (by first | (simp only [Nat.reduceAdd, Nat.reducePow]; omega) | (simp only [Nat.reduceAdd, Nat.reducePow]; done) | omega) (by first | (simp only [Nat.reduceAdd, Nat.reducePow]; omega) | (simp only [Nat.reduceAdd, Nat.reducePow]; done) | omega)).trans (by first | (simp only [Nat.reduceAdd, Nat.reducePow]; omega) | (simp only [Nat.reduceAdd, Nat.reducePow]; done) | omega)
theorem l1_66 {w0 w1 w2 w3 w4 w5 w6 w7 : Nat} (h0 : w0 < 128) (h1 : w1 < 2) (h2 : w2 < 16) (h3 : w3 < 8) (h4 : w4 < 32) (h5 : w5 < 32) (h6 : w6 < 64) (h7 : w7 < 2) : putB (w0 + 4096 * w3 + 256 * w2) 25 6 w6 = w0 + 4096 * w3 + 256 * w2 + 33554432 * w6 := (put_mid (hi := 0) (lo := w0 + 4096 * w3 + 256 * w2) (by first | (simp only [Nat.reduceAdd, Nat.reducePow]; omega) | (simp only [Nat.reduceAdd, Nat.reducePow]; done) | omega) (by first | (simp only [Nat.reduceAdd, Nat.reducePow]; omega) | (simp only [Nat.reduceAdd, Nat.reducePow]; done) | omega) (by first | (simp only [Nat.reduceAdd, Nat.reducePow]; omega) | (simp only [Nat.reduceAdd, Nat.reducePow]; done) | omega)).trans (by first | (simp only [Nat.reduceAdd, Nat.reducePow]; omega) | (simp only [Nat.reduceAdd, Nat.reducePow]; done) | omega)
theorem l2_66 {w0 w1 w2 w3 w4 w5 w6 w7 : Nat} (h0 : w0 < 128) (h1 : w1 < 2) (h2 : w2 < 16) (h3 : w3 < 8) (h4 : w4 < 32) (h5 : w5 < 32) (h6 : w6 < 64) (h7 : w7 < 2) : putB (w0 + 4096 * w3 + 256 * w2 + 33554432 * w6) 7 1 w1 = w0 + 4096 * w3 + 256 * w2 + 33554432 * w6 + 128 * w1 := (put_mid (hi := 16 * w3 + w2 + 131072 * w6) (lo := w0) (by first | (simp only [Nat.reduceAdd, Nat.reducePow]; omega) | (simp only [Nat.reduceAdd, Nat.reducePow]; done) | omega) (by first | (simp only [Nat.reduceAdd, Nat.reducePow]; omega) | (simp only [Nat.reduceAdd, Nat.reducePow]; done) | omega) (by first | (simp only [Nat.reduceAdd, Nat.reducePow]; omega) | (simp only [Nat.reduceAdd, Nat.reducePow]; done) | omega)).trans (by first | (simp only [Nat.reduceAdd, Nat.reducePow]; omega) | (simp only [Nat.reduceAdd, Nat.reducePow]; done) | omega)
theorem l3_66 {w0 w1 w2 w3 w4 w5 w6 w7 : Nat} (h0 : w0 < 128) (h1 : w1 < 2) (h2 : w2 < 16) (h3 : w3 < 8) (h4 : w4 < 32) (h5 : w5 < 32) (h6 : w6 < 64) (h7 : w7 < 2) : putB (w0 + 4096 * w3 + 256 * w2 + 33554432 * w6 + 128 * w1) 31 1 w7 = w0 + 4096 * w3 + 256 * w2 + 33554432 * w6 + 128 * w1 + 2147483648 * w7 := (put_mid (hi := 0) (lo := w0 + 4096 * w3 + 256 * w2 + 33554432 * w6 + 128 * w1) (by first | (simp only [Nat.reduceAdd, Nat.reducePow]; omega) | (simp only [Nat.reduceAdd, Nat.reducePow]; done) | omega) (by first | (simp only [Nat.reduceAdd, Nat.reducePow]; omega) | (simp only [Nat.reduceAdd, Nat.reducePow]; done) | omega) (by first | (simp only [Nat.reduceAdd, Nat.reducePow]; omega) | (simp only [Nat.reduceAdd, Nat.reducePow]; done) | omega)).trans (by first | (simp only [Nat.reduceAdd, Nat.reducePow]; omega) | (simp only [Nat.reduceAdd, Nat.reducePow]; done) | omega)
theorem g15_66 {w0 w1 w2 w3 w4 w5 w6 w7 : Nat} (h0 : w0 < 128) (h1 : w1 < 2) (h2 : w2 < 16) (h3 : w3 < 8) (h4 : w4 < 32) (h5 : w5 < 32) (h6 : w6 < 64) (h7 : w7 < 2) : (w0 + 128 * w1 + 256 * w2 + 4096 * w3 + 32768 * w4 + 1048576 * w5 + 33554432 * w6 + 2147483648 * w7) / 2 ^ 15 % 2 ^ 5 = w4 := fld_mid (hi := w5 + 32 * w6 + 2048 * w7) (lo := w0 + 128 * w1 + 256 * w2 + 4096 * w3) (by first | (simp only [Nat.reduceAdd, Nat.reducePow]; omega) | (simp only [Nat.reduceAdd, Nat.reducePow]; done) | omega) (by first | (simp only [Nat.reduceAdd, Nat.reducePow]; omega) | (simp only [Nat.reduceAdd, Nat.reducePow]; done) | omega) (by first | (simp only [Nat.reduceAdd, Nat.reducePow]; omega) | (simp only [Nat.reduceAdd, Nat.reducePow]; done) | omega)
theorem r15_66 {w0 w1 w2 w3 w4 w5 w6 w7 : Nat} (h0 : w0 < 128) (h1 : w1 < 2) (h2 : w2 < 16) (h3 : w3 < 8) (h4 : w4 < 32) (h5 : w5 < 32) (h6 : w6 < 64) (h7 : w7 < 2) : putB (w0 + 4096 * w3 + 256 * w2 + 33554432 * w6 + 128 * w1 + 2147483648 * w7) 15 5 w4 = w0 + 4096 * w3 + 256 * w2 + 33554432 * w6 + 128 * w1 + 2147483648 * w7 + 32768 * w4 := (put_mid (hi := 32 * w6 + 2048 * w7) (lo := w0 + 4096 * w3 + 256 * w2 + 128 * w1) (by first | (simp only [Nat.reduceAdd, Nat.reducePow]; omega) | (simp only [Nat.reduceAdd, Nat.reducePow]; done) | omega) (by first | (simp only [Nat.reduceAdd, Nat.reducePow]; omega) | (simp only [Nat.reduceAdd, Nat.reducePow]; done) | omega) (by first | (simp only [Nat.reduceAdd, Nat.reducePow]; omega) | (simp only [Nat.reduceAdd, Nat.reducePow]; done) | omega)).trans (by first | (simp only [Nat.reduceAdd, Nat.reducePow]; omega) | (simp only [Nat.reduceAdd, Nat.reducePow]; done) | omega)
theorem g20_66 {w0 w1 w2 w3 w4 w5 w6 w7 : Nat} (h0 : w0 < 128) (h1 : w1 < 2) (h2 : w2 < 16) (h3 : w3 < 8) (h4 : w4 < 32) (h5 : w5 < 32) (h6 : w6 < 64) (h7 : w7 < 2) : (w0 + 128 * w1 + 256 * w2 + 4096 * w3 + 32768 * w4 + 1048576 * w5 + 33554432 * w6 + 2147483648 * w7) / 2 ^ 20 % 2 ^ 5 = w5 := fld_mid (hi := w6 + 64 * w7) (lo := w0 + 128 * w1 + 256 * w2 + 4096 * w3 + 32768 * w4) (by first | (simp only [Nat.reduceAdd, Nat.reducePow]; omega) | (simp only [Nat.reduceAdd, Nat.reducePow]; done) | omega) (by first | (simp only [Nat.reduceAdd, Nat.reducePow]; omega) | (simp only [Nat.reduceAdd, Nat.reducePow]; done) | omega) (by first | (simp only [Nat.reduceAdd, Nat.reducePow]; omega) | (simp only [Nat.reduceAdd, Nat.reducePow]; done) | omega)
theorem r20_66 {w0 w1 w2 w3 w4 w5 w6 w7 : Nat} (h0 : w0 < 128) (h1 : w1 < 2) (h2 : w2 < 16) (h3 : w3 < 8) (h4 : w4 < 32) (h5 : w5 < 32) (h6 : w6 < 64) (h7 : w7 < 2) : putB (w0 + 4096 * w3 + 256 * w2 + 33554432 * w6 + 128 * w1 + 2147483648 * w7 + 32768 * w4) 20 5 w5 = w0 + 4096 * w3 + 256 * w2 + 33554432 * w6 + 128 * w1 + 2147483648 * w7 + 32768 * w4 + 1048576 * w5 := (put_mid (hi := w6 + 64 * w7) (lo := w0 + 4096 * w3 + 256 * w2 + 128 * w1 + 32768 * w4) (by first | (simp only [Nat.reduceAdd, Nat.reducePow]; omega) | (simp only [Nat.reduceAdd, Nat.reducePow]; done) | omega) (by first | (simp only [Nat.reduceAdd, Nat.reducePow]; omega) | (simp only [Nat.reduceAdd, Nat.reducePow]; done) | omega) (by first | (simp only [Nat.reduceAdd, Nat.reducePow]; omega) | (simp only [Nat.reduceAdd, Nat.reducePow]; done) | omega)).trans (by first | (simp only [Nat.reduceAdd, Nat.reducePow]; omega) | (simp only [Nat.reduceAdd, Nat.reducePow]; done) | omega)
theorem w_66 {W w0 w1 w2 w3 w4 w5 w6 w7 : Nat} {im : Int} (hW : W = w0 + 128 * w1 + 256 * w2 + 4096 * w3 + 32768 * w4 + 1048576 * w5 + 33554432 * w6 + 2147483648 * w7) (h0 : w0 < 128) (h1 : w1 < 2) (h2 : w2 < 16) (h3 : w3 < 8) (h4 : w4 < 32) (h5 : w5 < 32) (h6 : w6 < 64) (h7 : w7 < 2) (him : un im = signN ((laidS 66).1.foldl (readX W) 0) 13) : [((hasS 66).1, 7, if (hasS 66).1 = true then ((W / 2 ^ 7 % 2 ^ 5 : Nat) : Int) else 0), ((hasS 66).2.1, 15, if (hasS 66).2.1 = true then ((W / 2 ^ 15 % 2 ^ 5 : Nat) : Int) else 0), ((hasS 66).2.2, 20, if (hasS 66).2.2 = true then ((W / 2 ^ 20 % 2 ^ 5 : Nat) : Int) else 0)].foldl stepR ((laidS 66).1.foldl (layB im) (w0 + 4096 * w3)) = W := by
 have hx := x_66 hW h0 h1 h2 h3 h4 h5 h6 h7
 rw [hx] at him
 clear hx
 have eh : hasS 66 = (false, true, true) := rfl
 rw [eh]
 have z0 : (2 * w2 + 32 * w6 + 2048 * w1 + 4096 * w7) / 2 ^ 1 % 2 ^ 4 = w2 := by exact z0_66 h0 h1 h2 h3 h4 h5 h6 h7
 have u0 : un im / 2 ^ 1 % 2 ^ 4 = w2 := by rw [him, sign_piece (by decide) (by decide)]; exact z0
 have z1 : (2 * w2 + 32 * w6 + 2048 * w1 + 4096 * w7) / 2 ^ 5 % 2 ^ 6 = w6 := by exact z1_66 h0 h1 h2 h3 h4 h5 h6 h7
 have u1 : un im / 2 ^ 5 % 2 ^ 6 = w6 := by rw [him, sign_piece (by decide) (by decide)]; exact z1
 have z2 : (2 * w2 + 32 * w6 + 2048 * w1 + 4096 * w7) / 2 ^ 11 % 2 ^ 1 = w1 := by exact z2_66 h0 h1 h2 h3 h4 h5 h6 h7
 have u2 : un im / 2 ^ 11 % 2 ^ 1 = w1 := by rw [him, sign_piece (by decide) (by decide)]; exact z2
 have z3 : (2 * w2 + 32 * w6 + 2048 * w1 + 4096 * w7) / 2 ^ 12 % 2 ^ 1 = w7 := by exact z3_66 h0 h1 h2 h3 h4 h5 h6 h7
 have u3 : un im / 2 ^ 12 % 2 ^ 1 = w7 := by rw [him, sign_piece (by decide) (by decide)]; exact z3
 have l0 : putB (w0 + 4096 * w3) 8 4 w2 = w0 + 4096 * w3 + 256 * w2 := l0_66 h0 h1 h2 h3 h4 h5 h6 h7
 have l1 : putB (w0 + 4096 * w3 + 256 * w2) 25 6 w6 = w0 + 4096 * w3 + 256 * w2 + 33554432 * w6 := l1_66 h0 h1 h2 h3 h4 h5 h6 h7
 have l2 : putB (w0 + 4096 * w3 + 256 * w2 + 33554432 * w6) 7 1 w1 = w0 + 4096 * w3 + 256 * w2 + 33554432 * w6 + 128 * w1 := l2_66 h0 h1 h2 h3 h4 h5 h6 h7
 have l3 : putB (w0 + 4096 * w3 + 256 * w2 + 33554432 * w6 + 128 * w1) 31 1 w7 = w0 + 4096 * w3 + 256 * w2 + 33554432 * w6 + 128 * w1 + 2147483648 * w7 := l3_66 h0 h1 h2 h3 h4 h5 h6 h7
 have hl : (laidS 66).1.foldl (layB im) (w0 + 4096 * w3) = w0 + 4096 * w3 + 256 * w2 + 33554432 * w6 + 128 * w1 + 2147483648 * w7 := by
  rw [lp_66]
  have e0 : ∀ x, layB im x (1, 4, 8) = putB x 8 4 (un im / 2 ^ 1 % 2 ^ 4) := fun _ => rfl
  have e1 : ∀ x, layB im x (5, 6, 25) = putB x 25 6 (un im / 2 ^ 5 % 2 ^ 6) := fun _ => rfl
  have e2 : ∀ x, layB im x (11, 1, 7) = putB x 7 1 (un im / 2 ^ 11 % 2 ^ 1) := fun _ => rfl
  have e3 : ∀ x, layB im x (12, 1, 31) = putB x 31 1 (un im / 2 ^ 12 % 2 ^ 1) := fun _ => rfl
  rw [List.foldl_cons, List.foldl_cons, List.foldl_cons, List.foldl_cons, List.foldl_nil, e0, u0, l0, e1, u1, l1, e2, u2, l2, e3, u3, l3]
 rw [hl]
 have g15 : W / 2 ^ 15 % 2 ^ 5 = w4 := by rw [hW]; exact g15_66 h0 h1 h2 h3 h4 h5 h6 h7
 have r15 : putB (w0 + 4096 * w3 + 256 * w2 + 33554432 * w6 + 128 * w1 + 2147483648 * w7) 15 5 w4 = w0 + 4096 * w3 + 256 * w2 + 33554432 * w6 + 128 * w1 + 2147483648 * w7 + 32768 * w4 := r15_66 h0 h1 h2 h3 h4 h5 h6 h7
 have q15 : un ((w4 : Nat) : Int) = w4 := un_small (by omega)
 have g20 : W / 2 ^ 20 % 2 ^ 5 = w5 := by rw [hW]; exact g20_66 h0 h1 h2 h3 h4 h5 h6 h7
 have r20 : putB (w0 + 4096 * w3 + 256 * w2 + 33554432 * w6 + 128 * w1 + 2147483648 * w7 + 32768 * w4) 20 5 w5 = w0 + 4096 * w3 + 256 * w2 + 33554432 * w6 + 128 * w1 + 2147483648 * w7 + 32768 * w4 + 1048576 * w5 := r20_66 h0 h1 h2 h3 h4 h5 h6 h7
 have q20 : un ((w5 : Nat) : Int) = w5 := un_small (by omega)
 have ey : ∀ (x a : Nat) (r : Int), stepR x (true, a, r) = putB x a 5 (un r) := fun _ _ _ => rfl
 have en : ∀ (x a : Nat) (r : Int), stepR x (false, a, r) = x := fun _ _ _ => rfl
 dsimp only
 rw [List.foldl_cons, List.foldl_cons, List.foldl_cons, List.foldl_nil, ey, ey, en, if_pos rfl, if_pos rfl, g15, g20, q15, q20, r15, r20]
 rw [hW]
 clear hW
 omega
theorem lp_85 : (laidS 85).1 = [(12, 20, 12)] := rfl
theorem v0_85 {w0 w1 w2 : Nat} (h0 : w0 < 128) (h1 : w1 < 32) (h2 : w2 < 1048576) : (w0 + 128 * w1 + 4096 * w2) / 2 ^ 12 % 2 ^ 20 = w2 := fld_mid (hi := 0) (lo := w0 + 128 * w1) (by first | (simp only [Nat.reduceAdd, Nat.reducePow]; omega) | (simp only [Nat.reduceAdd, Nat.reducePow]; done) | omega) (by first | (simp only [Nat.reduceAdd, Nat.reducePow]; omega) | (simp only [Nat.reduceAdd, Nat.reducePow]; done) | omega) (by first | (simp only [Nat.reduceAdd, Nat.reducePow]; omega) | (simp only [Nat.reduceAdd, Nat.reducePow]; done) | omega)
theorem s0_85 {w0 w1 w2 : Nat} (h0 : w0 < 128) (h1 : w1 < 32) (h2 : w2 < 1048576) : putB (0) 12 20 w2 = 4096 * w2 := (put_mid (hi := 0) (lo := 0) (by first | (simp only [Nat.reduceAdd, Nat.reducePow]; omega) | (simp only [Nat.reduceAdd, Nat.reducePow]; done) | omega) (by first | (simp only [Nat.reduceAdd, Nat.reducePow]; omega) | (simp only [Nat.reduceAdd, Nat.reducePow]; done) | omega) (by first | (simp only [Nat.reduceAdd, Nat.reducePow]; omega) | (simp only [Nat.reduceAdd, Nat.reducePow]; done) | omega)).trans (by first | (simp only [Nat.reduceAdd, Nat.reducePow]; omega) | (simp only [Nat.reduceAdd, Nat.reducePow]; done) | omega)
theorem x_85 {W w0 w1 w2 : Nat} (hW : W = w0 + 128 * w1 + 4096 * w2) (h0 : w0 < 128) (h1 : w1 < 32) (h2 : w2 < 1048576) : (laidS 85).1.foldl (readX W) 0 = 4096 * w2 := by
 rw [lp_85]
 have v0 : W / 2 ^ 12 % 2 ^ 20 = w2 := by rw [hW]; exact v0_85 h0 h1 h2
 have s0 : putB (0) 12 20 w2 = 4096 * w2 := s0_85 h0 h1 h2
 have e0 : ∀ x, readX W x (12, 20, 12) = putB x 12 20 (W / 2 ^ 12 % 2 ^ 20) := fun _ => rfl
 rw [List.foldl_cons, List.foldl_nil, e0, v0, s0]
theorem z0_85 {w0 w1 w2 : Nat} (h0 : w0 < 128) (h1 : w1 < 32) (h2 : w2 < 1048576) : (4096 * w2) / 2 ^ 12 % 2 ^ 20 = w2 := fld_mid (hi := 0) (lo := 0) (by first | (simp only [Nat.reduceAdd, Nat.reducePow]; omega) | (simp only [Nat.reduceAdd, Nat.reducePow]; done) | omega) (by first | (simp only [Nat.reduceAdd, Nat.reducePow]; omega) | (simp only [Nat.reduceAdd, Nat.reducePow]; done) | omega) (by first | (simp only [Nat.reduceAdd, Nat.reducePow]; omega) | (simp only [Nat.reduceAdd, Nat.reducePow]; done) | omega)
theorem l0_85 {w0 w1 w2 : Nat} (h0 : w0 < 128) (h1 : w1 < 32) (h2 : w2 < 1048576) : putB (w0) 12 20 w2 = w0 + 4096 * w2 := (put_mid (hi := 0) (lo := w0) (by first | (simp only [Nat.reduceAdd, Nat.reducePow]; omega) | (simp only [Nat.reduceAdd, Nat.reducePow]; done) | omega) (by first | (simp only [Nat.reduceAdd, Nat.reducePow]; omega) | (simp only [Nat.reduceAdd, Nat.reducePow]; done) | omega) (by first | (simp only [Nat.reduceAdd, Nat.reducePow]; omega) | (simp only [Nat.reduceAdd, Nat.reducePow]; done) | omega)).trans (by first | (simp only [Nat.reduceAdd, Nat.reducePow]; omega) | (simp only [Nat.reduceAdd, Nat.reducePow]; done) | omega)
theorem g7_85 {w0 w1 w2 : Nat} (h0 : w0 < 128) (h1 : w1 < 32) (h2 : w2 < 1048576) : (w0 + 128 * w1 + 4096 * w2) / 2 ^ 7 % 2 ^ 5 = w1 := fld_mid (hi := w2) (lo := w0) (by first | (simp only [Nat.reduceAdd, Nat.reducePow]; omega) | (simp only [Nat.reduceAdd, Nat.reducePow]; done) | omega) (by first | (simp only [Nat.reduceAdd, Nat.reducePow]; omega) | (simp only [Nat.reduceAdd, Nat.reducePow]; done) | omega) (by first | (simp only [Nat.reduceAdd, Nat.reducePow]; omega) | (simp only [Nat.reduceAdd, Nat.reducePow]; done) | omega)
theorem r7_85 {w0 w1 w2 : Nat} (h0 : w0 < 128) (h1 : w1 < 32) (h2 : w2 < 1048576) : putB (w0 + 4096 * w2) 7 5 w1 = w0 + 4096 * w2 + 128 * w1 := (put_mid (hi := w2) (lo := w0) (by first | (simp only [Nat.reduceAdd, Nat.reducePow]; omega) | (simp only [Nat.reduceAdd, Nat.reducePow]; done) | omega) (by first | (simp only [Nat.reduceAdd, Nat.reducePow]; omega) | (simp only [Nat.reduceAdd, Nat.reducePow]; done) | omega) (by first | (simp only [Nat.reduceAdd, Nat.reducePow]; omega) | (simp only [Nat.reduceAdd, Nat.reducePow]; done) | omega)).trans (by first | (simp only [Nat.reduceAdd, Nat.reducePow]; omega) | (simp only [Nat.reduceAdd, Nat.reducePow]; done) | omega)
theorem w_85 {W w0 w1 w2 : Nat} {im : Int} (hW : W = w0 + 128 * w1 + 4096 * w2) (h0 : w0 < 128) (h1 : w1 < 32) (h2 : w2 < 1048576) (him : un im = signN ((laidS 85).1.foldl (readX W) 0) 32) : [((hasS 85).1, 7, if (hasS 85).1 = true then ((W / 2 ^ 7 % 2 ^ 5 : Nat) : Int) else 0), ((hasS 85).2.1, 15, if (hasS 85).2.1 = true then ((W / 2 ^ 15 % 2 ^ 5 : Nat) : Int) else 0), ((hasS 85).2.2, 20, if (hasS 85).2.2 = true then ((W / 2 ^ 20 % 2 ^ 5 : Nat) : Int) else 0)].foldl stepR ((laidS 85).1.foldl (layB im) (w0)) = W := by
 have hx := x_85 hW h0 h1 h2
 rw [hx] at him
 clear hx
 have eh : hasS 85 = (true, false, false) := rfl
 rw [eh]
 have z0 : (4096 * w2) / 2 ^ 12 % 2 ^ 20 = w2 := by exact z0_85 h0 h1 h2
 have u0 : un im / 2 ^ 12 % 2 ^ 20 = w2 := by rw [him, sign_piece (by decide) (by decide)]; exact z0
 have l0 : putB (w0) 12 20 w2 = w0 + 4096 * w2 := l0_85 h0 h1 h2
 have hl : (laidS 85).1.foldl (layB im) (w0) = w0 + 4096 * w2 := by
  rw [lp_85]
  have e0 : ∀ x, layB im x (12, 20, 12) = putB x 12 20 (un im / 2 ^ 12 % 2 ^ 20) := fun _ => rfl
  rw [List.foldl_cons, List.foldl_nil, e0, u0, l0]
 rw [hl]
 have g7 : W / 2 ^ 7 % 2 ^ 5 = w1 := by rw [hW]; exact g7_85 h0 h1 h2
 have r7 : putB (w0 + 4096 * w2) 7 5 w1 = w0 + 4096 * w2 + 128 * w1 := r7_85 h0 h1 h2
 have q7 : un ((w1 : Nat) : Int) = w1 := un_small (by omega)
 have ey : ∀ (x a : Nat) (r : Int), stepR x (true, a, r) = putB x a 5 (un r) := fun _ _ _ => rfl
 have en : ∀ (x a : Nat) (r : Int), stepR x (false, a, r) = x := fun _ _ _ => rfl
 dsimp only
 rw [List.foldl_cons, List.foldl_cons, List.foldl_cons, List.foldl_nil, en, en, ey, if_pos rfl, g7, q7, r7]
 rw [hW]
 clear hW
 omega
theorem lp_74 : (laidS 74).1 = [(12, 8, 12), (11, 1, 20), (1, 10, 21), (20, 1, 31)] := rfl
theorem v0_74 {w0 w1 w2 w3 w4 w5 : Nat} (h0 : w0 < 128) (h1 : w1 < 32) (h2 : w2 < 256) (h3 : w3 < 2) (h4 : w4 < 1024) (h5 : w5 < 2) : (w0 + 128 * w1 + 4096 * w2 + 1048576 * w3 + 2097152 * w4 + 2147483648 * w5) / 2 ^ 12 % 2 ^ 8 = w2 := fld_mid (hi := w3 + 2 * w4 + 2048 * w5) (lo := w0 + 128 * w1) (by first | (simp only [Nat.reduceAdd, Nat.reducePow]; omega) | (simp only [Nat.reduceAdd, Nat.reducePow]; done) | omega) (by first | (simp only [Nat.reduceAdd, Nat.reducePow]; omega) | (simp only [Nat.reduceAdd, Nat.reducePow]; done) | omega) (by first | (simp only [Nat.reduceAdd, Nat.reducePow]; omega) | (simp only [Nat.reduceAdd, Nat.reducePow]; done) | omega)
theorem v1_74 {w0 w1 w2 w3 w4 w5 : Nat} (h0 : w0 < 128) (h1 : w1 < 32) (h2 : w2 < 256) (h3 : w3 < 2) (h4 : w4 < 1024) (h5 : w5 < 2) : (w0 + 128 * w1 + 4096 * w2 + 1048576 * w3 + 2097152 * w4 + 2147483648 * w5) / 2 ^ 20 % 2 ^ 1 = w3 := fld_mid (hi := w4 + 1024 * w5) (lo := w0 + 128 * w1 + 4096 * w2) (by first | (simp only [Nat.reduceAdd, Nat.reducePow]; omega) | (simp only [Nat.reduceAdd, Nat.reducePow]; done) | omega) (by first | (simp only [Nat.reduceAdd, Nat.reducePow]; omega) | (simp only [Nat.reduceAdd, Nat.reducePow]; done) | omega) (by first | (simp only [Nat.reduceAdd, Nat.reducePow]; omega) | (simp only [Nat.reduceAdd, Nat.reducePow]; done) | omega)
theorem v2_74 {w0 w1 w2 w3 w4 w5 : Nat} (h0 : w0 < 128) (h1 : w1 < 32) (h2 : w2 < 256) (h3 : w3 < 2) (h4 : w4 < 1024) (h5 : w5 < 2) : (w0 + 128 * w1 + 4096 * w2 + 1048576 * w3 + 2097152 * w4 + 2147483648 * w5) / 2 ^ 21 % 2 ^ 10 = w4 := fld_mid (hi := w5) (lo := w0 + 128 * w1 + 4096 * w2 + 1048576 * w3) (by first | (simp only [Nat.reduceAdd, Nat.reducePow]; omega) | (simp only [Nat.reduceAdd, Nat.reducePow]; done) | omega) (by first | (simp only [Nat.reduceAdd, Nat.reducePow]; omega) | (simp only [Nat.reduceAdd, Nat.reducePow]; done) | omega) (by first | (simp only [Nat.reduceAdd, Nat.reducePow]; omega) | (simp only [Nat.reduceAdd, Nat.reducePow]; done) | omega)
theorem v3_74 {w0 w1 w2 w3 w4 w5 : Nat} (h0 : w0 < 128) (h1 : w1 < 32) (h2 : w2 < 256) (h3 : w3 < 2) (h4 : w4 < 1024) (h5 : w5 < 2) : (w0 + 128 * w1 + 4096 * w2 + 1048576 * w3 + 2097152 * w4 + 2147483648 * w5) / 2 ^ 31 % 2 ^ 1 = w5 := fld_mid (hi := 0) (lo := w0 + 128 * w1 + 4096 * w2 + 1048576 * w3 + 2097152 * w4) (by first | (simp only [Nat.reduceAdd, Nat.reducePow]; omega) | (simp only [Nat.reduceAdd, Nat.reducePow]; done) | omega) (by first | (simp only [Nat.reduceAdd, Nat.reducePow]; omega) | (simp only [Nat.reduceAdd, Nat.reducePow]; done) | omega) (by first | (simp only [Nat.reduceAdd, Nat.reducePow]; omega) | (simp only [Nat.reduceAdd, Nat.reducePow]; done) | omega)
theorem s0_74 {w0 w1 w2 w3 w4 w5 : Nat} (h0 : w0 < 128) (h1 : w1 < 32) (h2 : w2 < 256) (h3 : w3 < 2) (h4 : w4 < 1024) (h5 : w5 < 2) : putB (0) 12 8 w2 = 4096 * w2 := (put_mid (hi := 0) (lo := 0) (by first | (simp only [Nat.reduceAdd, Nat.reducePow]; omega) | (simp only [Nat.reduceAdd, Nat.reducePow]; done) | omega) (by first | (simp only [Nat.reduceAdd, Nat.reducePow]; omega) | (simp only [Nat.reduceAdd, Nat.reducePow]; done) | omega) (by first | (simp only [Nat.reduceAdd, Nat.reducePow]; omega) | (simp only [Nat.reduceAdd, Nat.reducePow]; done) | omega)).trans (by first | (simp only [Nat.reduceAdd, Nat.reducePow]; omega) | (simp only [Nat.reduceAdd, Nat.reducePow]; done) | omega)
theorem s1_74 {w0 w1 w2 w3 w4 w5 : Nat} (h0 : w0 < 128) (h1 : w1 < 32) (h2 : w2 < 256) (h3 : w3 < 2) (h4 : w4 < 1024) (h5 : w5 < 2) : putB (4096 * w2) 11 1 w3 = 4096 * w2 + 2048 * w3 := (put_mid (hi := w2) (lo := 0) (by first | (simp only [Nat.reduceAdd, Nat.reducePow]; omega) | (simp only [Nat.reduceAdd, Nat.reducePow]; done) | omega) (by first | (simp only [Nat.reduceAdd, Nat.reducePow]; omega) | (simp only [Nat.reduceAdd, Nat.reducePow]; done) | omega) (by first | (simp only [Nat.reduceAdd, Nat.reducePow]; omega) | (simp only [Nat.reduceAdd, Nat.reducePow]; done) | omega)).trans (by first | (simp only [Nat.reduceAdd, Nat.reducePow]; omega) | (simp only [Nat.reduceAdd, Nat.reducePow]; done) | omega)
theorem s2_74 {w0 w1 w2 w3 w4 w5 : Nat} (h0 : w0 < 128) (h1 : w1 < 32) (h2 : w2 < 256) (h3 : w3 < 2) (h4 : w4 < 1024) (h5 : w5 < 2) : putB (4096 * w2 + 2048 * w3) 1 10 w4 = 4096 * w2 + 2048 * w3 + 2 * w4 := (put_mid (hi := 2 * w2 + w3) (lo := 0) (by first | (simp only [Nat.reduceAdd, Nat.reducePow]; omega) | (simp only [Nat.reduceAdd, Nat.reducePow]; done) | omega) (by first | (simp only [Nat.reduceAdd, Nat.reducePow]; omega) | (simp only [Nat.reduceAdd, Nat.reducePow]; done) | omega) (by first | (simp only [Nat.reduceAdd, Nat.reducePow]; omega) | (simp only [Nat.reduceAdd, Nat.reducePow]; done) | omega)).trans (by first | (simp only [Nat.reduceAdd, Nat.reducePow]; omega) | (simp only [Nat.reduceAdd, Nat.reducePow]; done) | omega)
theorem s3_74 {w0 w1 w2 w3 w4 w5 : Nat} (h0 : w0 < 128) (h1 : w1 < 32) (h2 : w2 < 256) (h3 : w3 < 2) (h4 : w4 < 1024) (h5 : w5 < 2) : putB (4096 * w2 + 2048 * w3 + 2 * w4) 20 1 w5 = 4096 * w2 + 2048 * w3 + 2 * w4 + 1048576 * w5 := (put_mid (hi := 0) (lo := 4096 * w2 + 2048 * w3 + 2 * w4) (by first | (simp only [Nat.reduceAdd, Nat.reducePow]; omega) | (simp only [Nat.reduceAdd, Nat.reducePow]; done) | omega) (by first | (simp only [Nat.reduceAdd, Nat.reducePow]; omega) | (simp only [Nat.reduceAdd, Nat.reducePow]; done) | omega) (by first | (simp only [Nat.reduceAdd, Nat.reducePow]; omega) | (simp only [Nat.reduceAdd, Nat.reducePow]; done) | omega)).trans (by first | (simp only [Nat.reduceAdd, Nat.reducePow]; omega) | (simp only [Nat.reduceAdd, Nat.reducePow]; done) | omega)
theorem x_74 {W w0 w1 w2 w3 w4 w5 : Nat} (hW : W = w0 + 128 * w1 + 4096 * w2 + 1048576 * w3 + 2097152 * w4 + 2147483648 * w5) (h0 : w0 < 128) (h1 : w1 < 32) (h2 : w2 < 256) (h3 : w3 < 2) (h4 : w4 < 1024) (h5 : w5 < 2) : (laidS 74).1.foldl (readX W) 0 = 4096 * w2 + 2048 * w3 + 2 * w4 + 1048576 * w5 := by
 rw [lp_74]
 have v0 : W / 2 ^ 12 % 2 ^ 8 = w2 := by rw [hW]; exact v0_74 h0 h1 h2 h3 h4 h5
 have v1 : W / 2 ^ 20 % 2 ^ 1 = w3 := by rw [hW]; exact v1_74 h0 h1 h2 h3 h4 h5
 have v2 : W / 2 ^ 21 % 2 ^ 10 = w4 := by rw [hW]; exact v2_74 h0 h1 h2 h3 h4 h5
 have v3 : W / 2 ^ 31 % 2 ^ 1 = w5 := by rw [hW]; exact v3_74 h0 h1 h2 h3 h4 h5
 have s0 : putB (0) 12 8 w2 = 4096 * w2 := s0_74 h0 h1 h2 h3 h4 h5
 have e0 : ∀ x, readX W x (12, 8, 12) = putB x 12 8 (W / 2 ^ 12 % 2 ^ 8) := fun _ => rfl
 have s1 : putB (4096 * w2) 11 1 w3 = 4096 * w2 + 2048 * w3 := s1_74 h0 h1 h2 h3 h4 h5
 have e1 : ∀ x, readX W x (11, 1, 20) = putB x 11 1 (W / 2 ^ 20 % 2 ^ 1) := fun _ => rfl
 have s2 : putB (4096 * w2 + 2048 * w3) 1 10 w4 = 4096 * w2 + 2048 * w3 + 2 * w4 := s2_74 h0 h1 h2 h3 h4 h5
 have e2 : ∀ x, readX W x (1, 10, 21) = putB x 1 10 (W / 2 ^ 21 % 2 ^ 10) := fun _ => rfl
 have s3 : putB (4096 * w2 + 2048 * w3 + 2 * w4) 20 1 w5 = 4096 * w2 + 2048 * w3 + 2 * w4 + 1048576 * w5 := s3_74 h0 h1 h2 h3 h4 h5
 have e3 : ∀ x, readX W x (20, 1, 31) = putB x 20 1 (W / 2 ^ 31 % 2 ^ 1) := fun _ => rfl
 rw [List.foldl_cons, List.foldl_cons, List.foldl_cons, List.foldl_cons, List.foldl_nil, e0, v0, s0, e1, v1, s1, e2, v2, s2, e3, v3, s3]
theorem z0_74 {w0 w1 w2 w3 w4 w5 : Nat} (h0 : w0 < 128) (h1 : w1 < 32) (h2 : w2 < 256) (h3 : w3 < 2) (h4 : w4 < 1024) (h5 : w5 < 2) : (4096 * w2 + 2048 * w3 + 2 * w4 + 1048576 * w5) / 2 ^ 12 % 2 ^ 8 = w2 := fld_mid (hi := w5) (lo := 2048 * w3 + 2 * w4) (by first | (simp only [Nat.reduceAdd, Nat.reducePow]; omega) | (simp only [Nat.reduceAdd, Nat.reducePow]; done) | omega) (by first | (simp only [Nat.reduceAdd, Nat.reducePow]; omega) | (simp only [Nat.reduceAdd, Nat.reducePow]; done) | omega) (by first | (simp only [Nat.reduceAdd, Nat.reducePow]; omega) | (simp only [Nat.reduceAdd, Nat.reducePow]; done) | omega)
theorem z1_74 {w0 w1 w2 w3 w4 w5 : Nat} (h0 : w0 < 128) (h1 : w1 < 32) (h2 : w2 < 256) (h3 : w3 < 2) (h4 : w4 < 1024) (h5 : w5 < 2) : (4096 * w2 + 2048 * w3 + 2 * w4 + 1048576 * w5) / 2 ^ 11 % 2 ^ 1 = w3 := fld_mid (hi := w2 + 256 * w5) (lo := 2 * w4) (by first | (simp only [Nat.reduceAdd, Nat.reducePow]; omega) | (simp only [Nat.reduceAdd, Nat.reducePow]; done) | omega) (by first | (simp only [Nat.reduceAdd, Nat.reducePow]; omega) | (simp only [Nat.reduceAdd, Nat.reducePow]; done) | omega) (by first | (simp only [Nat.reduceAdd, Nat.reducePow]; omega) | (simp only [Nat.reduceAdd, Nat.reducePow]; done) | omega)
theorem z2_74 {w0 w1 w2 w3 w4 w5 : Nat} (h0 : w0 < 128) (h1 : w1 < 32) (h2 : w2 < 256) (h3 : w3 < 2) (h4 : w4 < 1024) (h5 : w5 < 2) : (4096 * w2 + 2048 * w3 + 2 * w4 + 1048576 * w5) / 2 ^ 1 % 2 ^ 10 = w4 := fld_mid (hi := 2 * w2 + w3 + 512 * w5) (lo := 0) (by first | (simp only [Nat.reduceAdd, Nat.reducePow]; omega) | (simp only [Nat.reduceAdd, Nat.reducePow]; done) | omega) (by first | (simp only [Nat.reduceAdd, Nat.reducePow]; omega) | (simp only [Nat.reduceAdd, Nat.reducePow]; done) | omega) (by first | (simp only [Nat.reduceAdd, Nat.reducePow]; omega) | (simp only [Nat.reduceAdd, Nat.reducePow]; done) | omega)
theorem z3_74 {w0 w1 w2 w3 w4 w5 : Nat} (h0 : w0 < 128) (h1 : w1 < 32) (h2 : w2 < 256) (h3 : w3 < 2) (h4 : w4 < 1024) (h5 : w5 < 2) : (4096 * w2 + 2048 * w3 + 2 * w4 + 1048576 * w5) / 2 ^ 20 % 2 ^ 1 = w5 := fld_mid (hi := 0) (lo := 4096 * w2 + 2048 * w3 + 2 * w4) (by first | (simp only [Nat.reduceAdd, Nat.reducePow]; omega) | (simp only [Nat.reduceAdd, Nat.reducePow]; done) | omega) (by first | (simp only [Nat.reduceAdd, Nat.reducePow]; omega) | (simp only [Nat.reduceAdd, Nat.reducePow]; done) | omega) (by first | (simp only [Nat.reduceAdd, Nat.reducePow]; omega) | (simp only [Nat.reduceAdd, Nat.reducePow]; done) | omega)
theorem l0_74 {w0 w1 w2 w3 w4 w5 : Nat} (h0 : w0 < 128) (h1 : w1 < 32) (h2 : w2 < 256) (h3 : w3 < 2) (h4 : w4 < 1024) (h5 : w5 < 2) : putB (w0) 12 8 w2 = w0 + 4096 * w2 := (put_mid (hi := 0) (lo := w0) (by first | (simp only [Nat.reduceAdd, Nat.reducePow]; omega) | (simp only [Nat.reduceAdd, Nat.reducePow]; done) | omega) (by first | (simp only [Nat.reduceAdd, Nat.reducePow]; omega) | (simp only [Nat.reduceAdd, Nat.reducePow]; done) | omega) (by first | (simp only [Nat.reduceAdd, Nat.reducePow]; omega) | (simp only [Nat.reduceAdd, Nat.reducePow]; done) | omega)).trans (by first | (simp only [Nat.reduceAdd, Nat.reducePow]; omega) | (simp only [Nat.reduceAdd, Nat.reducePow]; done) | omega)
theorem l1_74 {w0 w1 w2 w3 w4 w5 : Nat} (h0 : w0 < 128) (h1 : w1 < 32) (h2 : w2 < 256) (h3 : w3 < 2) (h4 : w4 < 1024) (h5 : w5 < 2) : putB (w0 + 4096 * w2) 20 1 w3 = w0 + 4096 * w2 + 1048576 * w3 := (put_mid (hi := 0) (lo := w0 + 4096 * w2) (by first | (simp only [Nat.reduceAdd, Nat.reducePow]; omega) | (simp only [Nat.reduceAdd, Nat.reducePow]; done) | omega) (by first | (simp only [Nat.reduceAdd, Nat.reducePow]; omega) | (simp only [Nat.reduceAdd, Nat.reducePow]; done) | omega) (by first | (simp only [Nat.reduceAdd, Nat.reducePow]; omega) | (simp only [Nat.reduceAdd, Nat.reducePow]; done) | omega)).trans (by first | (simp only [Nat.reduceAdd, Nat.reducePow]; omega) | (simp only [Nat.reduceAdd, Nat.reducePow]; done) | omega)
theorem l2_74 {w0 w1 w2 w3 w4 w5 : Nat} (h0 : w0 < 128) (h1 : w1 < 32) (h2 : w2 < 256) (h3 : w3 < 2) (h4 : w4 < 1024) (h5 : w5 < 2) : putB (w0 + 4096 * w2 + 1048576 * w3) 21 10 w4 = w0 + 4096 * w2 + 1048576 * w3 + 2097152 * w4 := (put_mid (hi := 0) (lo := w0 + 4096 * w2 + 1048576 * w3) (by first | (simp only [Nat.reduceAdd, Nat.reducePow]; omega) | (simp only [Nat.reduceAdd, Nat.reducePow]; done) | omega) (by first | (simp only [Nat.reduceAdd, Nat.reducePow]; omega) | (simp only [Nat.reduceAdd, Nat.reducePow]; done) | omega) (by first | (simp only [Nat.reduceAdd, Nat.reducePow]; omega) | (simp only [Nat.reduceAdd, Nat.reducePow]; done) | omega)).trans (by first | (simp only [Nat.reduceAdd, Nat.reducePow]; omega) | (simp only [Nat.reduceAdd, Nat.reducePow]; done) | omega)
theorem l3_74 {w0 w1 w2 w3 w4 w5 : Nat} (h0 : w0 < 128) (h1 : w1 < 32) (h2 : w2 < 256) (h3 : w3 < 2) (h4 : w4 < 1024) (h5 : w5 < 2) : putB (w0 + 4096 * w2 + 1048576 * w3 + 2097152 * w4) 31 1 w5 = w0 + 4096 * w2 + 1048576 * w3 + 2097152 * w4 + 2147483648 * w5 := (put_mid (hi := 0) (lo := w0 + 4096 * w2 + 1048576 * w3 + 2097152 * w4) (by first | (simp only [Nat.reduceAdd, Nat.reducePow]; omega) | (simp only [Nat.reduceAdd, Nat.reducePow]; done) | omega) (by first | (simp only [Nat.reduceAdd, Nat.reducePow]; omega) | (simp only [Nat.reduceAdd, Nat.reducePow]; done) | omega) (by first | (simp only [Nat.reduceAdd, Nat.reducePow]; omega) | (simp only [Nat.reduceAdd, Nat.reducePow]; done) | omega)).trans (by first | (simp only [Nat.reduceAdd, Nat.reducePow]; omega) | (simp only [Nat.reduceAdd, Nat.reducePow]; done) | omega)
theorem g7_74 {w0 w1 w2 w3 w4 w5 : Nat} (h0 : w0 < 128) (h1 : w1 < 32) (h2 : w2 < 256) (h3 : w3 < 2) (h4 : w4 < 1024) (h5 : w5 < 2) : (w0 + 128 * w1 + 4096 * w2 + 1048576 * w3 + 2097152 * w4 + 2147483648 * w5) / 2 ^ 7 % 2 ^ 5 = w1 := fld_mid (hi := w2 + 256 * w3 + 512 * w4 + 524288 * w5) (lo := w0) (by first | (simp only [Nat.reduceAdd, Nat.reducePow]; omega) | (simp only [Nat.reduceAdd, Nat.reducePow]; done) | omega) (by first | (simp only [Nat.reduceAdd, Nat.reducePow]; omega) | (simp only [Nat.reduceAdd, Nat.reducePow]; done) | omega) (by first | (simp only [Nat.reduceAdd, Nat.reducePow]; omega) | (simp only [Nat.reduceAdd, Nat.reducePow]; done) | omega)
theorem r7_74 {w0 w1 w2 w3 w4 w5 : Nat} (h0 : w0 < 128) (h1 : w1 < 32) (h2 : w2 < 256) (h3 : w3 < 2) (h4 : w4 < 1024) (h5 : w5 < 2) : putB (w0 + 4096 * w2 + 1048576 * w3 + 2097152 * w4 + 2147483648 * w5) 7 5 w1 = w0 + 4096 * w2 + 1048576 * w3 + 2097152 * w4 + 2147483648 * w5 + 128 * w1 := (put_mid (hi := w2 + 256 * w3 + 512 * w4 + 524288 * w5) (lo := w0) (by first | (simp only [Nat.reduceAdd, Nat.reducePow]; omega) | (simp only [Nat.reduceAdd, Nat.reducePow]; done) | omega) (by first | (simp only [Nat.reduceAdd, Nat.reducePow]; omega) | (simp only [Nat.reduceAdd, Nat.reducePow]; done) | omega) (by first | (simp only [Nat.reduceAdd, Nat.reducePow]; omega) | (simp only [Nat.reduceAdd, Nat.reducePow]; done) | omega)).trans (by first | (simp only [Nat.reduceAdd, Nat.reducePow]; omega) | (simp only [Nat.reduceAdd, Nat.reducePow]; done) | omega)
theorem w_74 {W w0 w1 w2 w3 w4 w5 : Nat} {im : Int} (hW : W = w0 + 128 * w1 + 4096 * w2 + 1048576 * w3 + 2097152 * w4 + 2147483648 * w5) (h0 : w0 < 128) (h1 : w1 < 32) (h2 : w2 < 256) (h3 : w3 < 2) (h4 : w4 < 1024) (h5 : w5 < 2) (him : un im = signN ((laidS 74).1.foldl (readX W) 0) 21) : [((hasS 74).1, 7, if (hasS 74).1 = true then ((W / 2 ^ 7 % 2 ^ 5 : Nat) : Int) else 0), ((hasS 74).2.1, 15, if (hasS 74).2.1 = true then ((W / 2 ^ 15 % 2 ^ 5 : Nat) : Int) else 0), ((hasS 74).2.2, 20, if (hasS 74).2.2 = true then ((W / 2 ^ 20 % 2 ^ 5 : Nat) : Int) else 0)].foldl stepR ((laidS 74).1.foldl (layB im) (w0)) = W := by
 have hx := x_74 hW h0 h1 h2 h3 h4 h5
 rw [hx] at him
 clear hx
 have eh : hasS 74 = (true, false, false) := rfl
 rw [eh]
 have z0 : (4096 * w2 + 2048 * w3 + 2 * w4 + 1048576 * w5) / 2 ^ 12 % 2 ^ 8 = w2 := by exact z0_74 h0 h1 h2 h3 h4 h5
 have u0 : un im / 2 ^ 12 % 2 ^ 8 = w2 := by rw [him, sign_piece (by decide) (by decide)]; exact z0
 have z1 : (4096 * w2 + 2048 * w3 + 2 * w4 + 1048576 * w5) / 2 ^ 11 % 2 ^ 1 = w3 := by exact z1_74 h0 h1 h2 h3 h4 h5
 have u1 : un im / 2 ^ 11 % 2 ^ 1 = w3 := by rw [him, sign_piece (by decide) (by decide)]; exact z1
 have z2 : (4096 * w2 + 2048 * w3 + 2 * w4 + 1048576 * w5) / 2 ^ 1 % 2 ^ 10 = w4 := by exact z2_74 h0 h1 h2 h3 h4 h5
 have u2 : un im / 2 ^ 1 % 2 ^ 10 = w4 := by rw [him, sign_piece (by decide) (by decide)]; exact z2
 have z3 : (4096 * w2 + 2048 * w3 + 2 * w4 + 1048576 * w5) / 2 ^ 20 % 2 ^ 1 = w5 := by exact z3_74 h0 h1 h2 h3 h4 h5
 have u3 : un im / 2 ^ 20 % 2 ^ 1 = w5 := by rw [him, sign_piece (by decide) (by decide)]; exact z3
 have l0 : putB (w0) 12 8 w2 = w0 + 4096 * w2 := l0_74 h0 h1 h2 h3 h4 h5
 have l1 : putB (w0 + 4096 * w2) 20 1 w3 = w0 + 4096 * w2 + 1048576 * w3 := l1_74 h0 h1 h2 h3 h4 h5
 have l2 : putB (w0 + 4096 * w2 + 1048576 * w3) 21 10 w4 = w0 + 4096 * w2 + 1048576 * w3 + 2097152 * w4 := l2_74 h0 h1 h2 h3 h4 h5
 have l3 : putB (w0 + 4096 * w2 + 1048576 * w3 + 2097152 * w4) 31 1 w5 = w0 + 4096 * w2 + 1048576 * w3 + 2097152 * w4 + 2147483648 * w5 := l3_74 h0 h1 h2 h3 h4 h5
 have hl : (laidS 74).1.foldl (layB im) (w0) = w0 + 4096 * w2 + 1048576 * w3 + 2097152 * w4 + 2147483648 * w5 := by
  rw [lp_74]
  have e0 : ∀ x, layB im x (12, 8, 12) = putB x 12 8 (un im / 2 ^ 12 % 2 ^ 8) := fun _ => rfl
  have e1 : ∀ x, layB im x (11, 1, 20) = putB x 20 1 (un im / 2 ^ 11 % 2 ^ 1) := fun _ => rfl
  have e2 : ∀ x, layB im x (1, 10, 21) = putB x 21 10 (un im / 2 ^ 1 % 2 ^ 10) := fun _ => rfl
  have e3 : ∀ x, layB im x (20, 1, 31) = putB x 31 1 (un im / 2 ^ 20 % 2 ^ 1) := fun _ => rfl
  rw [List.foldl_cons, List.foldl_cons, List.foldl_cons, List.foldl_cons, List.foldl_nil, e0, u0, l0, e1, u1, l1, e2, u2, l2, e3, u3, l3]
 rw [hl]
 have g7 : W / 2 ^ 7 % 2 ^ 5 = w1 := by rw [hW]; exact g7_74 h0 h1 h2 h3 h4 h5
 have r7 : putB (w0 + 4096 * w2 + 1048576 * w3 + 2097152 * w4 + 2147483648 * w5) 7 5 w1 = w0 + 4096 * w2 + 1048576 * w3 + 2097152 * w4 + 2147483648 * w5 + 128 * w1 := r7_74 h0 h1 h2 h3 h4 h5
 have q7 : un ((w1 : Nat) : Int) = w1 := un_small (by omega)
 have ey : ∀ (x a : Nat) (r : Int), stepR x (true, a, r) = putB x a 5 (un r) := fun _ _ _ => rfl
 have en : ∀ (x a : Nat) (r : Int), stepR x (false, a, r) = x := fun _ _ _ => rfl
 dsimp only
 rw [List.foldl_cons, List.foldl_cons, List.foldl_cons, List.foldl_nil, en, en, ey, if_pos rfl, g7, q7, r7]
 rw [hW]
 clear hW
 omega
theorem lp_82 : (laidS 82).1 = [] := rfl
theorem g7_82 {w0 w1 w2 w3 w4 w5 : Nat} (h0 : w0 < 128) (h1 : w1 < 32) (h2 : w2 < 8) (h3 : w3 < 32) (h4 : w4 < 32) (h5 : w5 < 128) : (w0 + 128 * w1 + 4096 * w2 + 32768 * w3 + 1048576 * w4 + 33554432 * w5) / 2 ^ 7 % 2 ^ 5 = w1 := fld_mid (hi := w2 + 8 * w3 + 256 * w4 + 8192 * w5) (lo := w0) (by first | (simp only [Nat.reduceAdd, Nat.reducePow]; omega) | (simp only [Nat.reduceAdd, Nat.reducePow]; done) | omega) (by first | (simp only [Nat.reduceAdd, Nat.reducePow]; omega) | (simp only [Nat.reduceAdd, Nat.reducePow]; done) | omega) (by first | (simp only [Nat.reduceAdd, Nat.reducePow]; omega) | (simp only [Nat.reduceAdd, Nat.reducePow]; done) | omega)
theorem r7_82 {w0 w1 w2 w3 w4 w5 : Nat} (h0 : w0 < 128) (h1 : w1 < 32) (h2 : w2 < 8) (h3 : w3 < 32) (h4 : w4 < 32) (h5 : w5 < 128) : putB (w0 + 4096 * w2 + 33554432 * w5) 7 5 w1 = w0 + 4096 * w2 + 33554432 * w5 + 128 * w1 := (put_mid (hi := w2 + 8192 * w5) (lo := w0) (by first | (simp only [Nat.reduceAdd, Nat.reducePow]; omega) | (simp only [Nat.reduceAdd, Nat.reducePow]; done) | omega) (by first | (simp only [Nat.reduceAdd, Nat.reducePow]; omega) | (simp only [Nat.reduceAdd, Nat.reducePow]; done) | omega) (by first | (simp only [Nat.reduceAdd, Nat.reducePow]; omega) | (simp only [Nat.reduceAdd, Nat.reducePow]; done) | omega)).trans (by first | (simp only [Nat.reduceAdd, Nat.reducePow]; omega) | (simp only [Nat.reduceAdd, Nat.reducePow]; done) | omega)
theorem g15_82 {w0 w1 w2 w3 w4 w5 : Nat} (h0 : w0 < 128) (h1 : w1 < 32) (h2 : w2 < 8) (h3 : w3 < 32) (h4 : w4 < 32) (h5 : w5 < 128) : (w0 + 128 * w1 + 4096 * w2 + 32768 * w3 + 1048576 * w4 + 33554432 * w5) / 2 ^ 15 % 2 ^ 5 = w3 := fld_mid (hi := w4 + 32 * w5) (lo := w0 + 128 * w1 + 4096 * w2) (by first | (simp only [Nat.reduceAdd, Nat.reducePow]; omega) | (simp only [Nat.reduceAdd, Nat.reducePow]; done) | omega) (by first | (simp only [Nat.reduceAdd, Nat.reducePow]; omega) | (simp only [Nat.reduceAdd, Nat.reducePow]; done) | omega) (by first | (simp only [Nat.reduceAdd, Nat.reducePow]; omega) | (simp only [Nat.reduceAdd, Nat.reducePow]; done) | omega)
theorem r15_82 {w0 w1 w2 w3 w4 w5 : Nat} (h0 : w0 < 128) (h1 : w1 < 32) (h2 : w2 < 8) (h3 : w3 < 32) (h4 : w4 < 32) (h5 : w5 < 128) : putB (w0 + 4096 * w2 + 33554432 * w5 + 128 * w1) 15 5 w3 = w0 + 4096 * w2 + 33554432 * w5 + 128 * w1 + 32768 * w3 := (put_mid (hi := 32 * w5) (lo := w0 + 4096 * w2 + 128 * w1) (by first | (simp only [Nat.reduceAdd, Nat.reducePow]; omega) | (simp only [Nat.reduceAdd, Nat.reducePow]; done) | omega) (by first | (simp only [Nat.reduceAdd, Nat.reducePow]; omega) | (simp only [Nat.reduceAdd, Nat.reducePow]; done) | omega) (by first | (simp only [Nat.reduceAdd, Nat.reducePow]; omega) | (simp only [Nat.reduceAdd, Nat.reducePow]; done) | omega)).trans (by first | (simp only [Nat.reduceAdd, Nat.reducePow]; omega) | (simp only [Nat.reduceAdd, Nat.reducePow]; done) | omega)
theorem g20_82 {w0 w1 w2 w3 w4 w5 : Nat} (h0 : w0 < 128) (h1 : w1 < 32) (h2 : w2 < 8) (h3 : w3 < 32) (h4 : w4 < 32) (h5 : w5 < 128) : (w0 + 128 * w1 + 4096 * w2 + 32768 * w3 + 1048576 * w4 + 33554432 * w5) / 2 ^ 20 % 2 ^ 5 = w4 := fld_mid (hi := w5) (lo := w0 + 128 * w1 + 4096 * w2 + 32768 * w3) (by first | (simp only [Nat.reduceAdd, Nat.reducePow]; omega) | (simp only [Nat.reduceAdd, Nat.reducePow]; done) | omega) (by first | (simp only [Nat.reduceAdd, Nat.reducePow]; omega) | (simp only [Nat.reduceAdd, Nat.reducePow]; done) | omega) (by first | (simp only [Nat.reduceAdd, Nat.reducePow]; omega) | (simp only [Nat.reduceAdd, Nat.reducePow]; done) | omega)
theorem r20_82 {w0 w1 w2 w3 w4 w5 : Nat} (h0 : w0 < 128) (h1 : w1 < 32) (h2 : w2 < 8) (h3 : w3 < 32) (h4 : w4 < 32) (h5 : w5 < 128) : putB (w0 + 4096 * w2 + 33554432 * w5 + 128 * w1 + 32768 * w3) 20 5 w4 = w0 + 4096 * w2 + 33554432 * w5 + 128 * w1 + 32768 * w3 + 1048576 * w4 := (put_mid (hi := w5) (lo := w0 + 4096 * w2 + 128 * w1 + 32768 * w3) (by first | (simp only [Nat.reduceAdd, Nat.reducePow]; omega) | (simp only [Nat.reduceAdd, Nat.reducePow]; done) | omega) (by first | (simp only [Nat.reduceAdd, Nat.reducePow]; omega) | (simp only [Nat.reduceAdd, Nat.reducePow]; done) | omega) (by first | (simp only [Nat.reduceAdd, Nat.reducePow]; omega) | (simp only [Nat.reduceAdd, Nat.reducePow]; done) | omega)).trans (by first | (simp only [Nat.reduceAdd, Nat.reducePow]; omega) | (simp only [Nat.reduceAdd, Nat.reducePow]; done) | omega)
theorem w_82 {W w0 w1 w2 w3 w4 w5 : Nat} {im : Int} (hW : W = w0 + 128 * w1 + 4096 * w2 + 32768 * w3 + 1048576 * w4 + 33554432 * w5) (h0 : w0 < 128) (h1 : w1 < 32) (h2 : w2 < 8) (h3 : w3 < 32) (h4 : w4 < 32) (h5 : w5 < 128) : [((hasS 82).1, 7, if (hasS 82).1 = true then ((W / 2 ^ 7 % 2 ^ 5 : Nat) : Int) else 0), ((hasS 82).2.1, 15, if (hasS 82).2.1 = true then ((W / 2 ^ 15 % 2 ^ 5 : Nat) : Int) else 0), ((hasS 82).2.2, 20, if (hasS 82).2.2 = true then ((W / 2 ^ 20 % 2 ^ 5 : Nat) : Int) else 0)].foldl stepR ((laidS 82).1.foldl (layB im) (w0 + 4096 * w2 + 33554432 * w5)) = W := by
 have eh : hasS 82 = (true, true, true) := rfl
 rw [eh]
 have hl : (laidS 82).1.foldl (layB im) (w0 + 4096 * w2 + 33554432 * w5) = w0 + 4096 * w2 + 33554432 * w5 := by
  rw [lp_82, List.foldl_nil]
 rw [hl]
 have g7 : W / 2 ^ 7 % 2 ^ 5 = w1 := by rw [hW]; exact g7_82 h0 h1 h2 h3 h4 h5
 have r7 : putB (w0 + 4096 * w2 + 33554432 * w5) 7 5 w1 = w0 + 4096 * w2 + 33554432 * w5 + 128 * w1 := r7_82 h0 h1 h2 h3 h4 h5
 have q7 : un ((w1 : Nat) : Int) = w1 := un_small (by omega)
 have g15 : W / 2 ^ 15 % 2 ^ 5 = w3 := by rw [hW]; exact g15_82 h0 h1 h2 h3 h4 h5
 have r15 : putB (w0 + 4096 * w2 + 33554432 * w5 + 128 * w1) 15 5 w3 = w0 + 4096 * w2 + 33554432 * w5 + 128 * w1 + 32768 * w3 := r15_82 h0 h1 h2 h3 h4 h5
 have q15 : un ((w3 : Nat) : Int) = w3 := un_small (by omega)
 have g20 : W / 2 ^ 20 % 2 ^ 5 = w4 := by rw [hW]; exact g20_82 h0 h1 h2 h3 h4 h5
 have r20 : putB (w0 + 4096 * w2 + 33554432 * w5 + 128 * w1 + 32768 * w3) 20 5 w4 = w0 + 4096 * w2 + 33554432 * w5 + 128 * w1 + 32768 * w3 + 1048576 * w4 := r20_82 h0 h1 h2 h3 h4 h5
 have q20 : un ((w4 : Nat) : Int) = w4 := un_small (by omega)
 have ey : ∀ (x a : Nat) (r : Int), stepR x (true, a, r) = putB x a 5 (un r) := fun _ _ _ => rfl
 have en : ∀ (x a : Nat) (r : Int), stepR x (false, a, r) = x := fun _ _ _ => rfl
 dsimp only
 rw [List.foldl_cons, List.foldl_cons, List.foldl_cons, List.foldl_nil, ey, ey, ey, if_pos rfl, if_pos rfl, if_pos rfl, g7, g15, g20, q7, q15, q20, r7, r15, r20]
 rw [hW]
 clear hW
 omega
theorem lp_71 : (laidS 71).1 = [] := rfl
theorem g7_71 {w0 w1 w2 w3 w4 w5 : Nat} (h0 : w0 < 128) (h1 : w1 < 32) (h2 : w2 < 8) (h3 : w3 < 32) (h4 : w4 < 32) (h5 : w5 < 128) : (w0 + 128 * w1 + 4096 * w2 + 32768 * w3 + 1048576 * w4 + 33554432 * w5) / 2 ^ 7 % 2 ^ 5 = w1 := fld_mid (hi := w2 + 8 * w3 + 256 * w4 + 8192 * w5) (lo := w0) (by first | (simp only [Nat.reduceAdd, Nat.reducePow]; omega) | (simp only [Nat.reduceAdd, Nat.reducePow]; done) | omega) (by first | (simp only [Nat.reduceAdd, Nat.reducePow]; omega) | (simp only [Nat.reduceAdd, Nat.reducePow]; done) | omega) (by first | (simp only [Nat.reduceAdd, Nat.reducePow]; omega) | (simp only [Nat.reduceAdd, Nat.reducePow]; done) | omega)
theorem r7_71 {w0 w1 w2 w3 w4 w5 : Nat} (h0 : w0 < 128) (h1 : w1 < 32) (h2 : w2 < 8) (h3 : w3 < 32) (h4 : w4 < 32) (h5 : w5 < 128) : putB (w0 + 4096 * w2 + 1048576 * w4 + 33554432 * w5) 7 5 w1 = w0 + 4096 * w2 + 1048576 * w4 + 33554432 * w5 + 128 * w1 := (put_mid (hi := w2 + 256 * w4 + 8192 * w5) (lo := w0) (by first | (simp only [Nat.reduceAdd, Nat.reducePow]; omega) | (simp only [Nat.reduceAdd, Nat.reducePow]; done) | omega) (by first | (simp only [Nat.reduceAdd, Nat.reducePow]; omega) | (simp only [Nat.reduceAdd, Nat.reducePow]; done) | omega) (by first | (simp only [Nat.reduceAdd, Nat.reducePow]; omega) | (simp only [Nat.reduceAdd, Nat.reducePow]; done) | omega)).trans (by first | (simp only [Nat.reduceAdd, Nat.reducePow]; omega) | (simp only [Nat.reduceAdd, Nat.reducePow]; done) | omega)
theorem g15_71 {w0 w1 w2 w3 w4 w5 : Nat} (h0 : w0 < 128) (h1 : w1 < 32) (h2 : w2 < 8) (h3 : w3 < 32) (h4 : w4 < 32) (h5 : w5 < 128) : (w0 + 128 * w1 + 4096 * w2 + 32768 * w3 + 1048576 * w4 + 33554432 * w5) / 2 ^ 15 % 2 ^ 5 = w3 := fld_mid (hi := w4 + 32 * w5) (lo := w0 + 128 * w1 + 4096 * w2) (by first | (simp only [Nat.reduceAdd, Nat.reducePow]; omega) | (simp only [Nat.reduceAdd, Nat.reducePow]; done) | omega) (by first | (simp only [Nat.reduceAdd, Nat.reducePow]; omega) | (simp only [Nat.reduceAdd, Nat.reducePow]; done) | omega) (by first | (simp only [Nat.reduceAdd, Nat.reducePow]; omega) | (simp only [Nat.reduceAdd, Nat.reducePow]; done) | omega)
theorem r15_71 {w0 w1 w2 w3 w4 w5 : Nat} (h0 : w0 < 128) (h1 : w1 < 32) (h2 : w2 < 8) (h3 : w3 < 32) (h4 : w4 < 32) (h5 : w5 < 128) : putB (w0 + 4096 * w2 + 1048576 * w4 + 33554432 * w5 + 128 * w1) 15 5 w3 = w0 + 4096 * w2 + 1048576 * w4 + 33554432 * w5 + 128 * w1 + 32768 * w3 := (put_mid (hi := w4 + 32 * w5) (lo := w0 + 4096 * w2 + 128 * w1) (by first | (simp only [Nat.reduceAdd, Nat.reducePow]; omega) | (simp only [Nat.reduceAdd, Nat.reducePow]; done) | omega) (by first | (simp only [Nat.reduceAdd, Nat.reducePow]; omega) | (simp only [Nat.reduceAdd, Nat.reducePow]; done) | omega) (by first | (simp only [Nat.reduceAdd, Nat.reducePow]; omega) | (simp only [Nat.reduceAdd, Nat.reducePow]; done) | omega)).trans (by first | (simp only [Nat.reduceAdd, Nat.reducePow]; omega) | (simp only [Nat.reduceAdd, Nat.reducePow]; done) | omega)
theorem w_71 {W w0 w1 w2 w3 w4 w5 : Nat} {im : Int} (hW : W = w0 + 128 * w1 + 4096 * w2 + 32768 * w3 + 1048576 * w4 + 33554432 * w5) (h0 : w0 < 128) (h1 : w1 < 32) (h2 : w2 < 8) (h3 : w3 < 32) (h4 : w4 < 32) (h5 : w5 < 128) : [((hasS 71).1, 7, if (hasS 71).1 = true then ((W / 2 ^ 7 % 2 ^ 5 : Nat) : Int) else 0), ((hasS 71).2.1, 15, if (hasS 71).2.1 = true then ((W / 2 ^ 15 % 2 ^ 5 : Nat) : Int) else 0), ((hasS 71).2.2, 20, if (hasS 71).2.2 = true then ((W / 2 ^ 20 % 2 ^ 5 : Nat) : Int) else 0)].foldl stepR ((laidS 71).1.foldl (layB im) (w0 + 4096 * w2 + 1048576 * w4 + 33554432 * w5)) = W := by
 have eh : hasS 71 = (true, true, false) := rfl
 rw [eh]
 have hl : (laidS 71).1.foldl (layB im) (w0 + 4096 * w2 + 1048576 * w4 + 33554432 * w5) = w0 + 4096 * w2 + 1048576 * w4 + 33554432 * w5 := by
  rw [lp_71, List.foldl_nil]
 rw [hl]
 have g7 : W / 2 ^ 7 % 2 ^ 5 = w1 := by rw [hW]; exact g7_71 h0 h1 h2 h3 h4 h5
 have r7 : putB (w0 + 4096 * w2 + 1048576 * w4 + 33554432 * w5) 7 5 w1 = w0 + 4096 * w2 + 1048576 * w4 + 33554432 * w5 + 128 * w1 := r7_71 h0 h1 h2 h3 h4 h5
 have q7 : un ((w1 : Nat) : Int) = w1 := un_small (by omega)
 have g15 : W / 2 ^ 15 % 2 ^ 5 = w3 := by rw [hW]; exact g15_71 h0 h1 h2 h3 h4 h5
 have r15 : putB (w0 + 4096 * w2 + 1048576 * w4 + 33554432 * w5 + 128 * w1) 15 5 w3 = w0 + 4096 * w2 + 1048576 * w4 + 33554432 * w5 + 128 * w1 + 32768 * w3 := r15_71 h0 h1 h2 h3 h4 h5
 have q15 : un ((w3 : Nat) : Int) = w3 := un_small (by omega)
 have ey : ∀ (x a : Nat) (r : Int), stepR x (true, a, r) = putB x a 5 (un r) := fun _ _ _ => rfl
 have en : ∀ (x a : Nat) (r : Int), stepR x (false, a, r) = x := fun _ _ _ => rfl
 dsimp only
 rw [List.foldl_cons, List.foldl_cons, List.foldl_cons, List.foldl_nil, en, ey, ey, if_pos rfl, if_pos rfl, g7, g15, q7, q15, r7, r15]
 rw [hW]
 clear hW
 omega
theorem lp_78 : (laidS 78).1 = [] := rfl
theorem w_78 {W w0 w1 w2 : Nat} {im : Int} (hW : W = w0 + 128 * w1 + 1048576 * w2) (h0 : w0 < 128) (h1 : w1 < 8192) (h2 : w2 < 4096) (hn : w1 = 0) : [((hasS 78).1, 7, if (hasS 78).1 = true then ((W / 2 ^ 7 % 2 ^ 5 : Nat) : Int) else 0), ((hasS 78).2.1, 15, if (hasS 78).2.1 = true then ((W / 2 ^ 15 % 2 ^ 5 : Nat) : Int) else 0), ((hasS 78).2.2, 20, if (hasS 78).2.2 = true then ((W / 2 ^ 20 % 2 ^ 5 : Nat) : Int) else 0)].foldl stepR ((laidS 78).1.foldl (layB im) (w0 + 1048576 * w2)) = W := by
 have eh : hasS 78 = (false, false, false) := rfl
 rw [eh]
 have hl : (laidS 78).1.foldl (layB im) (w0 + 1048576 * w2) = w0 + 1048576 * w2 := by
  rw [lp_78, List.foldl_nil]
 rw [hl]
 have ey : ∀ (x a : Nat) (r : Int), stepR x (true, a, r) = putB x a 5 (un r) := fun _ _ _ => rfl
 have en : ∀ (x a : Nat) (r : Int), stepR x (false, a, r) = x := fun _ _ _ => rfl
 dsimp only
 rw [List.foldl_cons, List.foldl_cons, List.foldl_cons, List.foldl_nil, en, en, en]
 rw [hW]
 clear hW
 omega
open Go.Fx
set_option maxRecDepth 100000
theorem fits_readS {ps : List (Nat × Nat × Nat)} {W b : Nat} (hb : 1 <= b /\ b <= 63) : fitsS (readL ps b true W) b = true := by
 unfold fitsS readL
 dsimp only
 rw [if_pos rfl]
 generalize ps.foldl (readX W) 0 = X
 unfold signN
 have hy : X % 2 ^ b < 2 ^ b := Nat.mod_lt _ (Nat.two_pow_pos _)
 have eb : (2 : Nat) ^ b = 2 * 2 ^ (b - 1) := by
  rw [<- Nat.pow_succ']
  congr 1
  omega
 have h63 : (2 : Nat) ^ (b - 1) <= 2 ^ 62 := Nat.pow_le_pow_right (by decide) (by omega)
 have e62 : (2 : Nat) ^ 62 = 4611686018427387904 := by decide
 rw [e62] at h63
 generalize X % 2 ^ b = y at *
 generalize 2 ^ (b - 1) = h at *
 generalize 2 ^ b = B at *
 apply decide_eq_true
 split
 ·rw [if_pos (by omega)]
  omega
 ·rw [if_neg (by omega)]
  omega
theorem fits_readU {ps : List (Nat × Nat × Nat)} {W b X : Nat} (hx : ps.foldl (readX W) 0 = X) (hX : X < 2 ^ b) (hb : b <= 62) : fitsU (readL ps b false W) b = true := by
 unfold fitsU readL
 dsimp only
 simp only [Bool.false_eq_true, if_false]
 rw [hx]
 have h63 : (2 : Nat) ^ b <= 2 ^ 62 := Nat.pow_le_pow_right (by decide) hb
 have e62 : (2 : Nat) ^ 62 = 4611686018427387904 := by decide
 rw [e62] at h63
 generalize 2 ^ b = B at *
 apply decide_eq_true
 rw [if_pos (by omega)]
 omega
theorem even_read {ps : List (Nat × Nat × Nat)} {W b z X : Nat} (hx : ps.foldl (readX W) 0 = X) (hz : z <= b) (hb : 1 <= b /\ b <= 64) (h : X % 2 ^ z = 0) : readL ps b true W % 2 ^ z = 0 := by
 have hm : un (readL ps b true W) % 2 ^ z = 0 := by
  unfold readL
  dsimp only
  rw [if_pos rfl, hx]
  have hs := sign_low (x := X) hb
  have hl := signN_lt (x := X) hb
  have h2 : signN X b % 2 ^ z = 0 := by
   have := low_bits (f := 0) (n := z) (b := b) (by omega) hs
   rw [Nat.pow_zero, Nat.div_one, Nat.div_one] at this
   rw [this, h]
  have e : un (if signN X b < 9223372036854775808 then (signN X b : Int) else (signN X b : Int) - 18446744073709551616) = signN X b := by
   unfold un
   split <;> omega
  rw [e, h2]
 by_cases hz64 : z < 64
 ·have := un_mod hz64 (readL ps b true W)
  rw [hm] at this
  simpa using this
 ·have hz2 : z = 64 := by omega
  subst hz2
  have hb2 : b = 64 := by omega
  unfold un at hm
  have e64 : (2 : Nat) ^ 64 = 18446744073709551616 := by decide
  have e64i : (2 : Int) ^ 64 = 18446744073709551616 := by decide
  rw [e64] at hm
  rw [e64i]
  omega
theorem reg5 (x : Nat) (t : Bool) (a : Nat) : okTr (t, a, if t = true then ((x % 2 ^ 5 : Nat) : Int) else 0) = true := by
 cases t with
 | false => rfl
 | true =>
  have : x % 2 ^ 5 < 2 ^ 5 := Nat.mod_lt _ (by decide)
  have e : okTr (true, a, if true = true then ((x % 2 ^ 5 : Nat) : Int) else 0) = fitsU ((x % 2 ^ 5 : Nat) : Int) 5 := rfl
  rw [e]
  unfold fitsU
  exact decide_eq_true (by omega)
/-- what a row's word is, by its shape. -/
structure Back (W : Nat) (s : Nat) (W0 : Nat) : Prop where
 fit : fitsL (laidS s).1.length (laidS s).2.1 (laidS s).2.2.1 (laidS s).2.2.2 (readL (laidS s).1 (laidS s).2.1 (laidS s).2.2.1 W) = true
 lay : [((hasS s).1, 7, if (hasS s).1 = true then ((W / 2 ^ 7 % 2 ^ 5 : Nat) : Int) else 0), ((hasS s).2.1, 15, if (hasS s).2.1 = true then ((W / 2 ^ 15 % 2 ^ 5 : Nat) : Int) else 0), ((hasS s).2.2, 20, if (hasS s).2.2 = true then ((W / 2 ^ 20 % 2 ^ 5 : Nat) : Int) else 0)].foldl stepR ((laidS s).1.foldl (layB (readL (laidS s).1 (laidS s).2.1 (laidS s).2.2.1 W)) W0) = W
theorem back_73 {W c f o : Nat} (hW : W < 4294967296) (hc : c < 128) (hf : f < 8) (ho : True) (h : W &&& (127 + 7 * 4096) = c + f * 4096) : Back W 73 (c + f * 4096) := by
 rw [and_I] at h
 obtain ⟨w0, w1, w2, w3, w4, hw, h0, h1, h2, h3, h4, he⟩ : ∃ w0 w1 w2 w3 w4 : Nat, W = w0 + 128 * w1 + 4096 * w2 + 32768 * w3 + 1048576 * w4 /\ w0 < 128 /\ w1 < 32 /\ w2 < 8 /\ w3 < 32 /\ w4 < 4096 /\ c + f * 4096 = w0 + 4096 * w2 := ⟨W % 128, W / 128 % 32, W / 4096 % 8, W / 32768 % 32, W / 1048576, by omega, by omega, by omega, by omega, by omega, by omega, by omega⟩
 rw [he]
 have hx := x_73 hw h0 h1 h2 h3 h4
 have hlt : (laidS 73).1.foldl (readX W) 0 < 18446744073709551616 := by rw [hx]; omega
 have hu := un_read (ps := (laidS 73).1) (bits := 12) (W := W) (sg := true) hlt (by decide)
 rw [if_pos rfl] at hu
 refine ⟨?_, w_73 (im := readL (laidS 73).1 12 true W) hw h0 h1 h2 h3 h4 hu⟩
 show fitsL 1 12 true 0 (readL (laidS 73).1 12 true W) = true
 unfold fitsL
 rw [if_pos rfl, fits_readS (by decide)]
 have e := even_read (z := 0) hx (by decide) (by decide : 1 <= 12 /\ 12 <= 64) (by simp only [Nat.reducePow]; omega)
 rw [decide_eq_true e]
 rfl
theorem back_67 {W c f o : Nat} (hW : W < 4294967296) (hc : c < 128) (hf : f < 8) (ho : True) (h : W &&& (127 + 7 * 4096) = c + f * 4096) : Back W 67 (c + f * 4096) := by
 rw [and_I] at h
 obtain ⟨w0, w1, w2, w3, w4, hw, h0, h1, h2, h3, h4, he⟩ : ∃ w0 w1 w2 w3 w4 : Nat, W = w0 + 128 * w1 + 4096 * w2 + 32768 * w3 + 1048576 * w4 /\ w0 < 128 /\ w1 < 32 /\ w2 < 8 /\ w3 < 32 /\ w4 < 4096 /\ c + f * 4096 = w0 + 4096 * w2 := ⟨W % 128, W / 128 % 32, W / 4096 % 8, W / 32768 % 32, W / 1048576, by omega, by omega, by omega, by omega, by omega, by omega, by omega⟩
 rw [he]
 have hx := x_67 hw h0 h1 h2 h3 h4
 have hlt : (laidS 67).1.foldl (readX W) 0 < 18446744073709551616 := by rw [hx]; omega
 have hu := un_read (ps := (laidS 67).1) (bits := 12) (W := W) (sg := false) hlt (by decide)
 rw [if_neg (by decide)] at hu
 refine ⟨?_, w_67 (im := readL (laidS 67).1 12 false W) hw h0 h1 h2 h3 h4 hu⟩
 show fitsL 1 12 false 0 (readL (laidS 67).1 12 false W) = true
 unfold fitsL
 rw [if_neg (by decide), fits_readU hx (by simp only [Nat.reducePow]; omega) (by decide)]
 simp
theorem back_72 {W c f o : Nat} (hW : W < 4294967296) (hc : c < 128) (hf : f < 8) (ho : o < 64) (h : W &&& (127 + 7 * 4096 + 63 * 67108864) = c + f * 4096 + o * 67108864) : Back W 72 (c + f * 4096 + o * 67108864) := by
 rw [and_H] at h
 obtain ⟨w0, w1, w2, w3, w4, w5, hw, h0, h1, h2, h3, h4, h5, he⟩ : ∃ w0 w1 w2 w3 w4 w5 : Nat, W = w0 + 128 * w1 + 4096 * w2 + 32768 * w3 + 1048576 * w4 + 67108864 * w5 /\ w0 < 128 /\ w1 < 32 /\ w2 < 8 /\ w3 < 32 /\ w4 < 64 /\ w5 < 64 /\ c + f * 4096 + o * 67108864 = w0 + 4096 * w2 + 67108864 * w5 := ⟨W % 128, W / 128 % 32, W / 4096 % 8, W / 32768 % 32, W / 1048576 % 64, W / 67108864, by omega, by omega, by omega, by omega, by omega, by omega, by omega, by omega⟩
 rw [he]
 have hx := x_72 hw h0 h1 h2 h3 h4 h5
 have hlt : (laidS 72).1.foldl (readX W) 0 < 18446744073709551616 := by rw [hx]; omega
 have hu := un_read (ps := (laidS 72).1) (bits := 6) (W := W) (sg := false) hlt (by decide)
 rw [if_neg (by decide)] at hu
 refine ⟨?_, w_72 (im := readL (laidS 72).1 6 false W) hw h0 h1 h2 h3 h4 h5 hu⟩
 show fitsL 1 6 false 0 (readL (laidS 72).1 6 false W) = true
 unfold fitsL
 rw [if_neg (by decide), fits_readU hx (by simp only [Nat.reducePow]; omega) (by decide)]
 simp
theorem back_83 {W c f o : Nat} (hW : W < 4294967296) (hc : c < 128) (hf : f < 8) (ho : True) (h : W &&& (127 + 7 * 4096) = c + f * 4096) : Back W 83 (c + f * 4096) := by
 rw [and_I] at h
 obtain ⟨w0, w1, w2, w3, w4, w5, hw, h0, h1, h2, h3, h4, h5, he⟩ : ∃ w0 w1 w2 w3 w4 w5 : Nat, W = w0 + 128 * w1 + 4096 * w2 + 32768 * w3 + 1048576 * w4 + 33554432 * w5 /\ w0 < 128 /\ w1 < 32 /\ w2 < 8 /\ w3 < 32 /\ w4 < 32 /\ w5 < 128 /\ c + f * 4096 = w0 + 4096 * w2 := ⟨W % 128, W / 128 % 32, W / 4096 % 8, W / 32768 % 32, W / 1048576 % 32, W / 33554432, by omega, by omega, by omega, by omega, by omega, by omega, by omega, by omega⟩
 rw [he]
 have hx := x_83 hw h0 h1 h2 h3 h4 h5
 have hlt : (laidS 83).1.foldl (readX W) 0 < 18446744073709551616 := by rw [hx]; omega
 have hu := un_read (ps := (laidS 83).1) (bits := 12) (W := W) (sg := true) hlt (by decide)
 rw [if_pos rfl] at hu
 refine ⟨?_, w_83 (im := readL (laidS 83).1 12 true W) hw h0 h1 h2 h3 h4 h5 hu⟩
 show fitsL 2 12 true 0 (readL (laidS 83).1 12 true W) = true
 unfold fitsL
 rw [if_pos rfl, fits_readS (by decide)]
 have e := even_read (z := 0) hx (by decide) (by decide : 1 <= 12 /\ 12 <= 64) (by simp only [Nat.reducePow]; omega)
 rw [decide_eq_true e]
 rfl
theorem back_66 {W c f o : Nat} (hW : W < 4294967296) (hc : c < 128) (hf : f < 8) (ho : True) (h : W &&& (127 + 7 * 4096) = c + f * 4096) : Back W 66 (c + f * 4096) := by
 rw [and_I] at h
 obtain ⟨w0, w1, w2, w3, w4, w5, w6, w7, hw, h0, h1, h2, h3, h4, h5, h6, h7, he⟩ : ∃ w0 w1 w2 w3 w4 w5 w6 w7 : Nat, W = w0 + 128 * w1 + 256 * w2 + 4096 * w3 + 32768 * w4 + 1048576 * w5 + 33554432 * w6 + 2147483648 * w7 /\ w0 < 128 /\ w1 < 2 /\ w2 < 16 /\ w3 < 8 /\ w4 < 32 /\ w5 < 32 /\ w6 < 64 /\ w7 < 2 /\ c + f * 4096 = w0 + 4096 * w3 := ⟨W % 128, W / 128 % 2, W / 256 % 16, W / 4096 % 8, W / 32768 % 32, W / 1048576 % 32, W / 33554432 % 64, W / 2147483648, by omega, by omega, by omega, by omega, by omega, by omega, by omega, by omega, by omega, by omega⟩
 rw [he]
 have hx := x_66 hw h0 h1 h2 h3 h4 h5 h6 h7
 have hlt : (laidS 66).1.foldl (readX W) 0 < 18446744073709551616 := by rw [hx]; omega
 have hu := un_read (ps := (laidS 66).1) (bits := 13) (W := W) (sg := true) hlt (by decide)
 rw [if_pos rfl] at hu
 refine ⟨?_, w_66 (im := readL (laidS 66).1 13 true W) hw h0 h1 h2 h3 h4 h5 h6 h7 hu⟩
 show fitsL 4 13 true 1 (readL (laidS 66).1 13 true W) = true
 unfold fitsL
 rw [if_pos rfl, fits_readS (by decide)]
 have e := even_read (z := 1) hx (by decide) (by decide : 1 <= 13 /\ 13 <= 64) (by simp only [Nat.reducePow]; omega)
 rw [decide_eq_true e]
 rfl
theorem back_85 {W c f o : Nat} (hW : W < 4294967296) (hc : c < 128) (hf : f < 8) (ho : True) (h : W &&& 127 = c) : Back W 85 (c) := by
 rw [and_U] at h
 obtain ⟨w0, w1, w2, hw, h0, h1, h2, he⟩ : ∃ w0 w1 w2 : Nat, W = w0 + 128 * w1 + 4096 * w2 /\ w0 < 128 /\ w1 < 32 /\ w2 < 1048576 /\ c = w0 := ⟨W % 128, W / 128 % 32, W / 4096, by omega, by omega, by omega, by omega, by omega⟩
 rw [he]
 have hx := x_85 hw h0 h1 h2
 have hlt : (laidS 85).1.foldl (readX W) 0 < 18446744073709551616 := by rw [hx]; omega
 have hu := un_read (ps := (laidS 85).1) (bits := 32) (W := W) (sg := true) hlt (by decide)
 rw [if_pos rfl] at hu
 refine ⟨?_, w_85 (im := readL (laidS 85).1 32 true W) hw h0 h1 h2 hu⟩
 show fitsL 1 32 true 12 (readL (laidS 85).1 32 true W) = true
 unfold fitsL
 rw [if_pos rfl, fits_readS (by decide)]
 have e := even_read (z := 12) hx (by decide) (by decide : 1 <= 32 /\ 32 <= 64) (by simp only [Nat.reducePow]; omega)
 rw [decide_eq_true e]
 rfl
theorem back_74 {W c f o : Nat} (hW : W < 4294967296) (hc : c < 128) (hf : f < 8) (ho : True) (h : W &&& 127 = c) : Back W 74 (c) := by
 rw [and_U] at h
 obtain ⟨w0, w1, w2, w3, w4, w5, hw, h0, h1, h2, h3, h4, h5, he⟩ : ∃ w0 w1 w2 w3 w4 w5 : Nat, W = w0 + 128 * w1 + 4096 * w2 + 1048576 * w3 + 2097152 * w4 + 2147483648 * w5 /\ w0 < 128 /\ w1 < 32 /\ w2 < 256 /\ w3 < 2 /\ w4 < 1024 /\ w5 < 2 /\ c = w0 := ⟨W % 128, W / 128 % 32, W / 4096 % 256, W / 1048576 % 2, W / 2097152 % 1024, W / 2147483648, by omega, by omega, by omega, by omega, by omega, by omega, by omega, by omega⟩
 rw [he]
 have hx := x_74 hw h0 h1 h2 h3 h4 h5
 have hlt : (laidS 74).1.foldl (readX W) 0 < 18446744073709551616 := by rw [hx]; omega
 have hu := un_read (ps := (laidS 74).1) (bits := 21) (W := W) (sg := true) hlt (by decide)
 rw [if_pos rfl] at hu
 refine ⟨?_, w_74 (im := readL (laidS 74).1 21 true W) hw h0 h1 h2 h3 h4 h5 hu⟩
 show fitsL 4 21 true 1 (readL (laidS 74).1 21 true W) = true
 unfold fitsL
 rw [if_pos rfl, fits_readS (by decide)]
 have e := even_read (z := 1) hx (by decide) (by decide : 1 <= 21 /\ 21 <= 64) (by simp only [Nat.reducePow]; omega)
 rw [decide_eq_true e]
 rfl
theorem back_82 {W c f o : Nat} (hW : W < 4294967296) (hc : c < 128) (hf : f < 8) (ho : o < 128) (h : W &&& (127 + 7 * 4096 + 127 * 33554432) = c + f * 4096 + o * 33554432) : Back W 82 (c + f * 4096 + o * 33554432) := by
 rw [and_R] at h
 obtain ⟨w0, w1, w2, w3, w4, w5, hw, h0, h1, h2, h3, h4, h5, he⟩ : ∃ w0 w1 w2 w3 w4 w5 : Nat, W = w0 + 128 * w1 + 4096 * w2 + 32768 * w3 + 1048576 * w4 + 33554432 * w5 /\ w0 < 128 /\ w1 < 32 /\ w2 < 8 /\ w3 < 32 /\ w4 < 32 /\ w5 < 128 /\ c + f * 4096 + o * 33554432 = w0 + 4096 * w2 + 33554432 * w5 := ⟨W % 128, W / 128 % 32, W / 4096 % 8, W / 32768 % 32, W / 1048576 % 32, W / 33554432, by omega, by omega, by omega, by omega, by omega, by omega, by omega, by omega⟩
 rw [he]
 exact ⟨rfl, w_82 (im := 0) hw h0 h1 h2 h3 h4 h5⟩
theorem back_71 {W c f o : Nat} (hW : W < 4294967296) (hc : c < 128) (hf : f < 8) (ho : o < 32) (h : W &&& (127 + 7 * 4096 + 31 * 1048576 + 127 * 33554432) = c + f * 4096 + o * 1048576 + 127 * 33554432) : Back W 71 (c + f * 4096 + o * 1048576 + 127 * 33554432) := by
 rw [and_G] at h
 obtain ⟨w0, w1, w2, w3, w4, w5, hw, h0, h1, h2, h3, h4, h5, he⟩ : ∃ w0 w1 w2 w3 w4 w5 : Nat, W = w0 + 128 * w1 + 4096 * w2 + 32768 * w3 + 1048576 * w4 + 33554432 * w5 /\ w0 < 128 /\ w1 < 32 /\ w2 < 8 /\ w3 < 32 /\ w4 < 32 /\ w5 < 128 /\ c + f * 4096 + o * 1048576 + 127 * 33554432 = w0 + 4096 * w2 + 1048576 * w4 + 33554432 * w5 := ⟨W % 128, W / 128 % 32, W / 4096 % 8, W / 32768 % 32, W / 1048576 % 32, W / 33554432, by omega, by omega, by omega, by omega, by omega, by omega, by omega, by omega⟩
 rw [he]
 exact ⟨rfl, w_71 (im := 0) hw h0 h1 h2 h3 h4 h5⟩
theorem back_78 {W c f o : Nat} (hW : W < 4294967296) (hc : c < 128) (hf : f < 8) (ho : o < 4096) (h : W &&& (127 + 8191 * 128 + 4095 * 1048576) = c + o * 1048576) : Back W 78 (c + o * 1048576) := by
 rw [and_N] at h
 obtain ⟨w0, w1, w2, hw, h0, h1, h2, he, hn⟩ : ∃ w0 w1 w2 : Nat, W = w0 + 128 * w1 + 1048576 * w2 /\ w0 < 128 /\ w1 < 8192 /\ w2 < 4096 /\ c + o * 1048576 = w0 + 1048576 * w2 /\ w1 = 0 := ⟨W % 128, W / 128 % 8192, W / 1048576, by omega, by omega, by omega, by omega, by omega, by omega⟩
 rw [he]
 exact ⟨rfl, w_78 (im := 0) hw h0 h1 h2 hn⟩
theorem shapes_back {W : Nat} {r : Rw} (hW : W < 4294967296) (hs : r.s = 73 ∨ r.s = 67 ∨ r.s = 72 ∨ r.s = 83 ∨ r.s = 66 ∨ r.s = 85 ∨ r.s = 74 ∨ r.s = 82 ∨ r.s = 71 ∨ r.s = 78) (hc : r.c < 128) (hf : r.f < 8) (o1 : r.s = 82 -> r.o < 128) (o2 : r.s = 71 -> r.o < 32) (o3 : r.s = 72 -> r.o < 64) (o4 : r.s = 78 -> r.o < 4096) (h : W &&& Msh r.s = Wsh r) : Back W r.s (Wsh r) := by
 obtain ⟨n, s, c, f, o⟩ := r
 dsimp only at *
 rcases hs with rfl | rfl | rfl | rfl | rfl | rfl | rfl | rfl | rfl | rfl
 ·exact back_73 (o := o) hW hc hf trivial h
 ·exact back_67 (o := o) hW hc hf trivial h
 ·exact back_72 (o := o) hW hc hf (o3 rfl) h
 ·exact back_83 (o := o) hW hc hf trivial h
 ·exact back_66 (o := o) hW hc hf trivial h
 ·exact back_85 (o := o) hW hc hf trivial h
 ·exact back_74 (o := o) hW hc hf trivial h
 ·exact back_82 (o := o) hW hc hf (o1 rfl) h
 ·exact back_71 (o := o) hW hc hf (o2 rfl) h
 ·exact back_78 (o := o) hW hc hf (o4 rfl) h
theorem word_back {W k : Nat} (hW : W < 4294967296) (hk : k < 69) (h : W &&& fixM (row k) = fixW (row k)) : encOk (ofK W k) = true /\ encR (ofK W k) = W := by
 obtain ⟨f1, f2, f3, f4, f5, f6, f7, f8⟩ := row_fact hk
 obtain ⟨-, -, -, -, -, hs⟩ := row_goodA hk
 rw [f1, f2] at h
 obtain ⟨b1, b2⟩ := shapes_back hW hs f3 f4 f5 f6 f7 f8 h
 have hop : okOp (ofK W k).op = true := decide_eq_true (show 1 <= (k : Int) + 1 /\ (k : Int) + 1 <= 69 by omega)
 have hz : rowZ (ofK W k).op = row k := by
  unfold rowZ
  rw [hop, if_pos rfl]
  have e : ((ofK W k).op - 1).toNat = k := by show (((k : Int) + 1) - 1).toNat = k; omega
  rw [e]
 have hok : encOk (ofK W k) = true := by
  unfold encOk
  dsimp only
  rw [hop, hz]
  have e1 : (ofK W k).im = readL (laidS (row k).s).1 (laidS (row k).s).2.1 (laidS (row k).s).2.2.1 W := rfl
  rw [e1, b1]
  unfold regsI
  dsimp only
  rw [hz]
  simp only [List.all_cons, List.all_nil, Bool.and_true, Bool.true_and]
  have r1 : okTr ((hasS (row k).s).1, 7, (ofK W k).rd) = true := reg5 (W / 2 ^ 7) _ 7
  have r2 : okTr ((hasS (row k).s).2.1, 15, (ofK W k).r1) = true := reg5 (W / 2 ^ 15) _ 15
  have r3 : okTr ((hasS (row k).s).2.2, 20, (ofK W k).r2) = true := reg5 (W / 2 ^ 20) _ 20
  rw [r1, r2, r3]
  rfl
 refine ⟨hok, ?_⟩
 unfold encR encW regsI
 rw [hok, if_pos rfl, hz]
 dsimp only
 have e2 := b2
 rw [f2]
 exact (congrArg (·% 4294967296) e2).trans (Nat.mod_eq_of_lt hW)
open Go.Fx
theorem qG4 : type_of% (And.intro @gen0 (And.intro (@gen1 Tryz.prog) (And.intro @gen2 (And.intro @rulesC (And.intro @rulesX (And.intro @rulesA (And.intro @rulesL (And.intro @rulesB (And.intro @litR (And.intro @bolR (And.intro (@numR Tryz.prog) (And.intro (@memR Tryz.prog) (And.intro @valR (And.intro @heapR (And.intro @updR (And.intro @intR (And.intro @decR (And.intro (@extR Tryz.prog) (And.intro (@slR Tryz.prog) (And.intro @segR (And.intro @thenR ((@pnR Tryz.prog))))))))))))))))))))))) := ⟨@gen0, (@gen1 Tryz.prog), @gen2, @rulesC, @rulesX, @rulesA, @rulesL, @rulesB, @litR, @bolR, (@numR Tryz.prog), (@memR Tryz.prog), @valR, @heapR, @updR, @intR, @decR, (@extR Tryz.prog), (@slR Tryz.prog), @segR, @thenR, (@pnR Tryz.prog)⟩
set_option maxRecDepth 100000
/-- the word that an instruction goes to; false: none. -/
def targetF (i : IZ) (at' n : Nat) : Int × Bool :=
 if ((rowZ i.op).s ≠ 66 /\ (rowZ i.op).s ≠ 74) ∨ i.im % 4 ≠ 0 then (0, false) else (at' + i.im / 4, decide (0 <= at' + i.im / 4 /\ at' + i.im / 4 <= n))
theorem target_spec {w : World} {i : IZ} {a n : Nat} (hi : izOk i) (ha : a <= 1000000) (hn : n <= 1000000) (him : -10000000000 < i.im /\ i.im < 10000000000) {K : Value -> World -> Prop} (hK : ∀ w', Ext [] w w' -> K (.tuple #[.int .i64 (targetF i a n).1, .bool (targetF i a n).2]) w') : callsK Tryz.prog 32 #[.agg (izC i).toArray, .int .i64 (a : Nat), .int .i64 (n : Nat)] w K := by
 obtain ⟨ho, hrd, hr1, hr2, -⟩ := hi
 apply F32_ok
 unfold F32
 have i0 : (izC i)[0]? = some (.int .i64 i.op) := rfl
 have i4 : (izC i)[4]? = some (.int .i64 i.im) := rfl
 simp (disch := first | exact qD5 | fail) only [qG4, Nat.reduceAdd, Nat.reduceLeDiff, Int.reduceToNat, Int.reduceAdd, Int.reduceSub, Int.reduceLT, Int.reduceLE, Nat.reduceSub, Nat.reduceMul, Nat.reduceEqDiff, izC_sub, i0]
 have g1 : (w.alloc (.cells (izC i).toArray 25)).heap[w.heap.size]? = some (.cells (izC i).toArray 25 (0, 0)) := alloc_at rfl
 have hx0 : Ext [] w (w.alloc (.cells (izC i).toArray 25)) := Ext.alloc Ext.refl _ _
 refine Shape_spec ho fun w1 hx1 => ?_
 have g2 := hx1.at g1 (by simp)
 have hx2 := hx0.trans hx1 (by simp)
 have l2 := lt_of_at g2
 have hT : targetF i a n = if ((rowZ i.op).s ≠ 66 /\ (rowZ i.op).s ≠ 74) ∨ i.im % 4 ≠ 0 then (0, false) else (a + i.im / 4, decide (0 <= a + i.im / 4 /\ a + i.im / 4 <= n)) := rfl
 generalize targetF i a n = T at *
 generalize (rowZ i.op).s = s at *
 generalize i.im = m at *
 by_cases h1 : s ≠ 66 /\ s ≠ 74
 ·rw [if_pos (.inl h1)] at hT
  rw [hT] at hK
  obtain ⟨h1a, h1b⟩ := h1
  have e1 : ¬ ((s : Nat) : Int) = 66 := by omega
  have e2 : ¬ ((s : Nat) : Int) = 74 := by omega
  simp (disch := first | exact qD5 | fail) only [qG4, Nat.reduceAdd, Nat.reduceLeDiff, Int.reduceToNat, Int.reduceAdd, Int.reduceSub, Int.reduceLT, Int.reduceLE, Nat.reduceSub, Nat.reduceMul, Nat.reduceEqDiff, joinBR, e1, e2]
  exact hK _ hx2
 ·have hs : s = 66 ∨ s = 74 := by omega
  by_cases hm : m % 4 = 0
  ·have hd : (4 : Int) ∣ m := Int.dvd_of_emod_eq_zero hm
   have t1 : m.tmod 4 = 0 := Int.tmod_eq_zero_of_dvd hd
   have t2 : m.tdiv 4 = m / 4 := Int.tdiv_eq_ediv_of_dvd hd
   rw [if_neg (by omega)] at hT
   rw [hT] at hK
   have hb2 : -2500000001 <= m / 4 /\ m / 4 <= 2500000001 := by omega
   generalize m / 4 = q at *
   rcases hs with rfl | rfl
   ·by_cases c1 : 0 <= (a : Int) + q
    ·by_cases c2 : (a : Int) + q <= n
     ·simp (disch := first | exact qD5 | fail) only [qG4, Nat.reduceAdd, Nat.reduceLeDiff, Int.reduceToNat, Int.reduceAdd, Int.reduceSub, Int.reduceLT, Int.reduceLE, Nat.reduceSub, Nat.reduceMul, Nat.reduceEqDiff, joinBR, g2, i4, t1, t2]
      rw [decide_eq_true ⟨c1, c2⟩] at hK
      exact hK _ hx2
     ·simp (disch := first | exact qD5 | fail) only [qG4, Nat.reduceAdd, Nat.reduceLeDiff, Int.reduceToNat, Int.reduceAdd, Int.reduceSub, Int.reduceLT, Int.reduceLE, Nat.reduceSub, Nat.reduceMul, Nat.reduceEqDiff, joinBR, g2, i4, t1, t2]
      rw [decide_eq_false (fun h => c2 h.2)] at hK
      exact hK _ hx2
    ·simp (disch := first | exact qD5 | fail) only [qG4, Nat.reduceAdd, Nat.reduceLeDiff, Int.reduceToNat, Int.reduceAdd, Int.reduceSub, Int.reduceLT, Int.reduceLE, Nat.reduceSub, Nat.reduceMul, Nat.reduceEqDiff, joinBR, g2, i4, t1, t2]
     rw [decide_eq_false (fun h => c1 h.1)] at hK
     exact hK _ hx2
   ·by_cases c1 : 0 <= (a : Int) + q
    ·by_cases c2 : (a : Int) + q <= n
     ·simp (disch := first | exact qD5 | fail) only [qG4, Nat.reduceAdd, Nat.reduceLeDiff, Int.reduceToNat, Int.reduceAdd, Int.reduceSub, Int.reduceLT, Int.reduceLE, Nat.reduceSub, Nat.reduceMul, Nat.reduceEqDiff, joinBR, g2, i4, t1, t2]
      rw [decide_eq_true ⟨c1, c2⟩] at hK
      exact hK _ hx2
     ·simp (disch := first | exact qD5 | fail) only [qG4, Nat.reduceAdd, Nat.reduceLeDiff, Int.reduceToNat, Int.reduceAdd, Int.reduceSub, Int.reduceLT, Int.reduceLE, Nat.reduceSub, Nat.reduceMul, Nat.reduceEqDiff, joinBR, g2, i4, t1, t2]
      rw [decide_eq_false (fun h => c2 h.2)] at hK
      exact hK _ hx2
    ·simp (disch := first | exact qD5 | fail) only [qG4, Nat.reduceAdd, Nat.reduceLeDiff, Int.reduceToNat, Int.reduceAdd, Int.reduceSub, Int.reduceLT, Int.reduceLE, Nat.reduceSub, Nat.reduceMul, Nat.reduceEqDiff, joinBR, g2, i4, t1, t2]
     rw [decide_eq_false (fun h => c1 h.1)] at hK
     exact hK _ hx2
  ·have t1 : ¬ m.tmod 4 = 0 := fun h => hm (Int.emod_eq_zero_of_dvd (Int.dvd_of_tmod_eq_zero h))
   rw [if_pos (.inr hm)] at hT
   rw [hT] at hK
   rcases hs with rfl | rfl
   ·simp (disch := first | exact qD5 | fail) only [qG4, Nat.reduceAdd, Nat.reduceLeDiff, Int.reduceToNat, Int.reduceAdd, Int.reduceSub, Int.reduceLT, Int.reduceLE, Nat.reduceSub, Nat.reduceMul, Nat.reduceEqDiff, joinBR, g2, i4, t1]
    exact hK _ hx2
   ·simp (disch := first | exact qD5 | fail) only [qG4, Nat.reduceAdd, Nat.reduceLeDiff, Int.reduceToNat, Int.reduceAdd, Int.reduceSub, Int.reduceLT, Int.reduceLE, Nat.reduceSub, Nat.reduceMul, Nat.reduceEqDiff, joinBR, g2, i4, t1]
    exact hK _ hx2
/-- a mark's name. -/
def markF (n : Int) : List UInt8 := 109 :: dec n
theorem markName_spec {w : World} {n : Int} (hn : in64 n) {K : Value -> World -> Prop} (hK : ∀ w', Ext [] w w' -> K (.string ⟨(markF n).toArray⟩) w') : callsK Tryz.prog 12 #[.int .i64 n] w K := by
 apply F12_ok
 unfold F12
 have hd := dec_len (n := n)
 refine digits_spec hn fun w1 hx1 => ?_
 have hadd : ∀ (x y : Operand) (w : World), (binV .add 9 x y (.string ⟨#[109]⟩) (.string ⟨(dec n).toArray⟩)).run Tryz.prog w = .ok (.string ⟨(markF n).toArray⟩) w := addS (a := [109]) (b := dec n) (by simp; omega)
 simp (disch := first | exact qD5 | fail) only [qG4, Nat.reduceAdd, Nat.reduceLeDiff, Int.reduceToNat, Int.reduceAdd, Int.reduceSub, Int.reduceLT, Int.reduceLE, Nat.reduceSub, Nat.reduceMul, Nat.reduceEqDiff, hadd]
 exact hK _ hx1
open Go.Fx
set_option maxRecDepth 100000
/-- a digit's byte. -/
def hd (d : Nat) : UInt8 := UInt8.ofNat (if d < 10 then 48 + d else 87 + d)
/-- some digits of a word. -/
def hexL : Nat -> Nat -> List UInt8
 | 0, _ => []
 | j + 1, W => hd (W / 16 ^ j % 16) :: hexL j W
theorem hexL_len : ∀ j W, (hexL j W).length = j
 | 0, _ => rfl
 | j + 1, W => by rw [hexL, List.length_cons, hexL_len j W]
theorem hexL_back : ∀ n W, hexL (n + 1) W = hexL n (W / 16) ++ [hd (W % 16)]
 | 0, W => by simp [hexL]
 | n + 1, W => by
  rw [hexL, hexL_back n W, hexL, List.cons_append]
  congr 2
  rw [Nat.div_div_eq_div_mul, Nat.pow_succ, Nat.mul_comm 16]
def sgnZ : ByteArray := ⟨#[48, 49, 50, 51, 52, 53, 54, 55, 56, 57, 97, 98, 99, 100, 101, 102]⟩
theorem sixteen {p : Nat -> Prop} (h : p 0 /\ p 1 /\ p 2 /\ p 3 /\ p 4 /\ p 5 /\ p 6 /\ p 7 /\ p 8 /\ p 9 /\ p 10 /\ p 11 /\ p 12 /\ p 13 /\ p 14 /\ p 15) {k : Nat} (hk : k < 16) : p k := by
 rcases (by omega : k = 0 ∨ k = 1 ∨ k = 2 ∨ k = 3 ∨ k = 4 ∨ k = 5 ∨ k = 6 ∨ k = 7 ∨ k = 8 ∨ k = 9 ∨ k = 10 ∨ k = 11 ∨ k = 12 ∨ k = 13 ∨ k = 14 ∨ k = 15) with rfl | rfl | rfl | rfl | rfl | rfl | rfl | rfl | rfl | rfl | rfl | rfl | rfl | rfl | rfl | rfl
 all_goals simp [h]
theorem sgnZ_ix {d : Nat} (h : d < 16) (w : World) : (Instr.index 9 (.string sgnZ) (.int .u32 (d : Int))).run Tryz.prog w = .ok (.int .u8 ((hd d).toNat : Nat)) w := by
 have key : ∀ (hd' : d < sgnZ.size), ((sgnZ[d].toNat : Nat) : Int) = ((hd d).toNat : Nat) :=
  sixteen (p := fun d => ∀ (hd' : d < sgnZ.size), ((sgnZ[d].toNat : Nat) : Int) = ((hd d).toNat : Nat)) ⟨fun _ => rfl, fun _ => rfl, fun _ => rfl, fun _ => rfl, fun _ => rfl, fun _ => rfl, fun _ => rfl, fun _ => rfl, fun _ => rfl, fun _ => rfl, fun _ => rfl, fun _ => rfl, fun _ => rfl, fun _ => rfl, fun _ => rfl, fun _ => rfl⟩ h
 have hs : sgnZ.size = 16 := rfl
 rw [run_index_string w 9 sgnZ .u32 (d : Int) Tryz.underlying9, dif_pos ⟨by omega, by rw [hs]; omega⟩]
 simp only [Int.toNat_natCast]
 rw [key]
theorem hex_spec {w : World} {W : Nat} (hW : W < 4294967296) {K : Value -> World -> Prop} (hK : ∀ w', Ext [] w w' -> K (.string ⟨(hexL 8 W).toArray⟩) w') : callsK Tryz.prog 33 #[.int .u32 (W : Nat)] w K := by
 apply F33_ok
 unfold F33
 simp (disch := first | exact qDR | fail) only [qG4, Nat.reduceAdd, Nat.reduceLeDiff, Int.reduceToNat, Int.reduceAdd, Int.reduceSub, Int.reduceLT, Int.reduceLE, Nat.reduceSub, Nat.reduceMul, Nat.reduceEqDiff]
 refine loopT.intro (fun st w' => ∃ (L : List Value) (j m : Nat), st = [.int .u32 (m : Nat), .int .i64 (7 - (j : Int))] /\ m = W / 16 ^ j /\ j <= 8 /\ L.length = 8 /\ w'.heap[w.heap.size]? = some (.cells L.toArray 131 (0, 0)) /\ L.drop (8 - j) = (hexL j W).map (fun b => .int .u8 (b.toNat : Nat)) /\ Ext [] w w')
  (fun st _ => match st with
   | [_, .int _ z] => (z + 1).toNat
   | _ => 0) ⟨_, 0, W, rfl, by simp, by omega, rfl, alloc_at rfl, rfl, qX⟩ ?_
 rintro st w' ⟨L, j, m, rfl, hm, hj, hL, hg, hdr, hx⟩ _
 have hlt := lt_of_at hg
 by_cases hj8 : j < 8
 ·have hs : (⟨#[48, 49, 50, 51, 52, 53, 54, 55, 56, 57, 97, 98, 99, 100, 101, 102]⟩ : ByteArray) = sgnZ := rfl
  have hmd : ((m : Nat) : Int) % 16 = ((m % 16 : Nat) : Int) := by omega
  have hq : ((m : Nat) : Int) / 16 = ((m / 16 : Nat) : Int) := by omega
  have hix := sgnZ_ix (d := m % 16) (by omega)
  have hmb : m < 4294967296 := by rw [hm]; exact Nat.lt_of_le_of_lt (Nat.div_le_self _ _) hW
  simp (disch := first | exact qDR | fail) only [qG4, Nat.reduceAdd, Nat.reduceLeDiff, Int.reduceToNat, Int.reduceAdd, Int.reduceSub, Int.reduceLT, Int.reduceLE, Nat.reduceSub, Nat.reduceMul, Nat.reduceEqDiff, hmd, hq, hs, hix, hg]
  refine ⟨⟨_, j + 1, m / 16, by congr 3; omega, by rw [hm, Nat.div_div_eq_div_mul, Nat.pow_succ], by omega, by rw [List.length_set]; exact hL, rfl, ?_, qX⟩, by omega⟩
  rw [hexL, <- hm, List.map_cons, <- hdr, show (7 - (j : Int)).toNat = 8 - (j + 1) by omega]
  have h1 : 8 - (j + 1) < L.length := by omega
  rw [List.drop_eq_getElem_cons (by rw [List.length_set]; exact h1), List.getElem_set_self, List.drop_set_of_lt (by omega), show 8 - (j + 1) + 1 = 8 - j by omega]
 ·obtain rfl : j = 8 := by omega
  have hr : RowsAt w' (.slice (some ⟨w.heap.size, 0, none⟩) 8 8) 1 ((hexL 8 W).map bC) := by
   refine ⟨_, _, by rw [List.length_map, hexL_len], by rw [List.length_map, hexL_len]; simp only [maxLen]; omega, .inr ⟨_, _, L, _, _, rfl, hg, by rw [List.length_map, hexL_len]; omega, fun k r hk => ?_⟩⟩
   have e : L = (hexL 8 W).map (fun b => .int .u8 (b.toNat : Nat)) := by rw [<- hdr]; rfl
   rw [List.getElem?_map] at hk
   obtain ⟨b, hb, rfl⟩ : ∃ b, (hexL 8 W)[k]? = some b /\ bC b = r := by
    cases hb : (hexL 8 W)[k]? with
    | none => rw [hb] at hk; cases hk
    | some b => rw [hb] at hk; exact ⟨b, rfl, by simpa using hk⟩
   obtain ⟨hk1, hk2⟩ := List.getElem?_eq_some_iff.1 hb
   have hk3 : k < L.length := by rw [e, List.length_map]; exact hk1
   have h2 : L[k]? = some (.int .u8 (b.toNat : Nat)) := by rw [e, List.getElem?_map, hb]; rfl
   obtain ⟨h3, h4⟩ := List.getElem?_eq_some_iff.1 h2
   unfold Go.Fx.sub bC
   rw [Nat.zero_add, Nat.mul_one, List.drop_eq_getElem_cons hk3, h4]
   rfl
  have ht := text_of_bytes hr (by intro h; have := congrArg List.length h; simp [hexL_len] at this)
  simp (disch := first | exact qDR | fail) only [qG4, Nat.reduceAdd, Nat.reduceLeDiff, Int.reduceToNat, Int.reduceAdd, Int.reduceSub, Int.reduceLT, Int.reduceLE, Nat.reduceSub, Nat.reduceMul, Nat.reduceEqDiff, hg, ht]
  exact hK _ hx
open Go.Fx
theorem qG5 : type_of% (And.intro @gen0 (And.intro (@gen1 Tryz.prog) (And.intro @gen2 (And.intro @rulesC (And.intro @rulesX (And.intro @rulesA (And.intro @rulesL (And.intro @rulesB (And.intro @rulesW (And.intro @litR (And.intro @bolR (And.intro (@numR Tryz.prog) (And.intro (@memR Tryz.prog) (And.intro @valR (And.intro @heapR (And.intro @updR (And.intro @intR (And.intro @decR (And.intro (@extR Tryz.prog) (And.intro (@slR Tryz.prog) (And.intro @segR (And.intro @thenR ((@pnR Tryz.prog)))))))))))))))))))))))) := ⟨@gen0, (@gen1 Tryz.prog), @gen2, @rulesC, @rulesX, @rulesA, @rulesL, @rulesB, @rulesW, @litR, @bolR, (@numR Tryz.prog), (@memR Tryz.prog), @valR, @heapR, @updR, @intR, @decR, (@extR Tryz.prog), (@slR Tryz.prog), @segR, @thenR, (@pnR Tryz.prog)⟩
set_option maxRecDepth 100000
theorem info_lister : ∃ j, Tryz.prog.info? 39 = some j /\ j.size ≠ 0 := by
 have h : (Tryz.prog.info? 39).map (fun j => decide (j.size ≠ 0)) = some true := by kernel_rfl
 obtain ⟨j, h1, h2⟩ := Option.map_eq_some_iff.1 h
 exact ⟨j, h1, of_decide_eq_true h2⟩
/-- the cells of a lister. -/
def lsC (ws : Value) (m : Nat) (p v : Value) : List Value := [ws, .map (some m), p, v]
theorem lies_lister : liesAt Tryz.prog Tryz.prog.depth 41 (4 / Tryz.prog.cellsOf 41) 2 39 1 = true := by kernel_rfl
theorem noesc {x : Value} {w : World} {K : Value -> World -> Prop} : kN Tryz.prog (callN (.func (.func 88) #[] #[]) #[x]) w K = K x w := by
 have e := Fx.kN_call (P := Tryz.prog) (f := 88) (first := #[]) (cap := #[]) (args := #[x]) (w := w) (K := K)
 refine e.trans ?_
 have e2 := run_callFunc_extern Tryz.func88 (by kernel_rfl) (by kernel_rfl) (by kernel_rfl) (e := Extern.AbiNoEscape.same) (by kernel_rfl) #[x] w
 have e3 : (#[] ++ #[x] ++ #[] : Array Value) = #[x] := rfl
 rw [e3, e2, Lib.run_noEscape]
 rfl
theorem copyCheck_spec {w : World} {b m : Nat} {ws p v : Value} (hg : w.heap[b]? = some (.cells (lsC ws m p v).toArray 41 (0, 0))) (hp : p = .pointer none ∨ p = .pointer (some ⟨b, 2, none⟩)) {K : Value -> World -> Prop}
  (hK : ∀ w', w'.heap[b]? = some (.cells (lsC ws m (.pointer (some ⟨b, 2, none⟩)) v).toArray 41 (0, 0)) -> (∀ k, k ≠ b -> w'.heap[k]? = w.heap[k]?) -> Ext [b] w w' -> K (.tuple #[]) w') : callsK Tryz.prog 70 #[.pointer (some ⟨b, 2, none⟩)] w K := by
 apply F70_ok
 unfold F70
 obtain ⟨j, hj, hjs⟩ := info_lister
 unfold lsC at hg
 rcases hp with rfl | rfl
 ·have hsh : w.shape? b = some (41, 4) := by simp [World.shape?, hg]
  have h1 : (convert 36 150 (.pointer (some ⟨b, 2, none⟩))).run Tryz.prog w = .ok (.pointer (some ⟨b, 2, none⟩)) w :=
   Lib.run_to_unsafe w ⟨b, 2, none⟩ Tryz.underlying36 Tryz.underlying150 hj hjs hsh (show 2 < 4 by decide)
  have h2 : (convert 150 36 (.pointer (some ⟨b, 2, none⟩))).run Tryz.prog w = .ok (.pointer (some ⟨b, 2, none⟩)) w :=
   Lib.run_from_unsafe w ⟨b, 2, none⟩ Tryz.underlying150 Tryz.underlying36 hj hsh lies_lister
  simp (disch := first | exact qDR | fail) only [qG5, Nat.reduceAdd, Nat.reduceLeDiff, Int.reduceToNat, Int.reduceAdd, Int.reduceSub, Int.reduceLT, Int.reduceLE, Nat.reduceSub, Nat.reduceMul, Nat.reduceEqDiff, joinBR, hg, Option.isNone_none, h1, h2, noesc]
  exact hK _ (upd_at hg) (fun k hk => upd_ne hk) qX
 ·have h1 : ∀ (x y : Operand) (w : World), (binV .neq 36 x y (.pointer (some ⟨b, 2, none⟩)) (.pointer (some ⟨b, 2, none⟩))).run Tryz.prog w = .ok (.bool false) w := fun x y w => by
   have := Lib.run_neq_ptr_same (P := Tryz.prog) w ⟨b, 2, none⟩ Tryz.underlying36 hj
   simpa [binV, eqGuard] using this
  simp (disch := first | exact qDR | fail) only [qG5, Nat.reduceAdd, Nat.reduceLeDiff, Int.reduceToNat, Int.reduceAdd, Int.reduceSub, Int.reduceLT, Int.reduceLE, Nat.reduceSub, Nat.reduceMul, Nat.reduceEqDiff, joinBR, hg, Option.isNone_some, h1]
  exact hK _ hg (fun k hk => rfl) Ext.refl
/-- a lister at block b, with its map m: where marks are, what it wrote. -/
structure Lst (w0 w : World) (b m : Nat) (ws : Value) (f : Int -> Option Bool) (xs : List UInt8) : Prop where
 bb : w0.heap.size <= b
 bm : w0.heap.size <= m
 ext : Ext [] w0 w
 map : MapF w m iV64 Value.bool f
 cells : ∃ p v, (p = .pointer none ∨ p = .pointer (some ⟨b, 2, none⟩)) /\ w.heap[b]? = some (.cells (lsC ws m p v).toArray 41 (0, 0)) /\ w.ownsRow w0.heap.size 5 1 v xs.length (Lib.byteCells xs) /\ (xs = [] -> v = .slice none 0 0)
theorem MapF.obj {w : World} {m : Nat} {f : Int -> Option Bool} (h : MapF w m iV64 Value.bool f) : ∃ es c, w.heap[m]? = some (.map es c) := by
 obtain ⟨l, ⟨⟨es, cl, h1, -⟩, -⟩, -⟩ := h
 exact ⟨es, cl, h1⟩
theorem MapF.kept {w w' : World} {m : Nat} {f : Int -> Option Bool} (h : MapF w m iV64 Value.bool f) (hm : w'.heap[m]? = w.heap[m]?) : MapF w' m iV64 Value.bool f := by
 obtain ⟨l, ⟨⟨es, cl, h1, h2⟩, h3⟩, h4⟩ := h
 exact ⟨l, ⟨⟨es, cl, hm.trans h1, h2⟩, h3⟩, h4⟩
theorem Lst.ext0 {w0 w w' : World} {b m : Nat} {ws : Value} {f : Int -> Option Bool} {xs : List UInt8} (h : Lst w0 w b m ws f xs) (hx : Ext [] w w') : Lst w0 w' b m ws f xs := by
 obtain ⟨p, v, hp, hg, ⟨h3, h4⟩, h0⟩ := h.cells
 refine ⟨h.bb, h.bm, h.ext.trans hx (by simp), h.map.ext hx (by simp), p, v, hp, hx.at hg (by simp), ⟨h3, h4.imp id ?_⟩, h0⟩
 rintro ⟨g, cap, cur, e1, e2, e3, e4⟩
 exact ⟨g, cap, cur, e1, e2, hx.at e3 (by simp), e4⟩
theorem own_ne {w : World} {B n b : Nat} {v : Value} {xs : List Value} {c : Array Value} {T : TypeId} {fr : Nat × Nat} (ho : w.ownsRow B 5 1 v n xs) (hb : w.heap[b]? = some (.cells c T fr)) (hT : T ≠ 5) : v.ownBlock ≠ some b := Lib.ownBlock_ne ho hb hT
theorem own_nem {w : World} {B n m : Nat} {v : Value} {xs : List Value} {es : Array MapEntry} {c : Nat} (ho : w.ownsRow B 5 1 v n xs) (hb : w.heap[m]? = some (.map es c)) : v.ownBlock ≠ some m := by
 rcases ho.2 with ⟨rfl, _⟩ | ⟨g, cap, cur, rfl, _, hg, _⟩
 ·simp [Value.ownBlock]
 ·intro h
  simp only [Value.ownBlock, Option.some.injEq] at h
  subst h
  rw [hg] at hb
  cases hb
theorem infoByte : ∃ i, Tryz.prog.info? 5 = some i /\ i.zero = some (.int .u8 0) /\ i.size = 1 /\ i.bytes = 1 := info_parts (by kernel_rfl)
theorem wstr_spec {w0 w : World} {b m : Nat} {ws : Value} {f : Int -> Option Bool} {xs ys : List UInt8} (h : Lst w0 w b m ws f xs) (hl : xs.length + ys.length <= 100000000) {K : Value -> World -> Prop} (hK : ∀ v w', Lst w0 w' b m ws f (xs ++ ys) -> K v w') :
  callsK Tryz.prog 36 #[.pointer (some ⟨b, 2, none⟩), .string ⟨ys.toArray⟩] w K := by
 obtain ⟨p, v, hp, hg, hown, h0⟩ := h.cells
 obtain ⟨es, cl, hm⟩ := MapF.obj h.map
 have hbm : m ≠ b := fun e => by subst e; rw [hg] at hm; cases hm
 have hvb : v.ownBlock ≠ some b := own_ne hown hg (by decide)
 have hvm : v.ownBlock ≠ some m := own_nem hown hm
 apply F36_ok
 unfold F36
 simp (disch := first | exact qDR | fail) only [qG5, Nat.reduceAdd, Nat.reduceLeDiff, Int.reduceToNat, Int.reduceAdd, Int.reduceSub, Int.reduceLT, Int.reduceLE, Nat.reduceSub, Nat.reduceMul, Nat.reduceEqDiff]
 refine copyCheck_spec hg hp fun w1 hg1 hk1 hx1 => ?_
 have hlt1 := lt_of_at hg1
 have hx01 : Ext [] w0 w1 := h.ext.trans hx1 (by intro k hk; simp at hk; subst hk; exact .inr h.bb)
 have hown1 : w1.ownsRow w0.heap.size 5 1 v xs.length (Lib.byteCells xs) := by
  refine ⟨hown.1, hown.2.imp id ?_⟩
  rintro ⟨g, cap, cur, e1, e2, e3, e4⟩
  refine ⟨g, cap, cur, e1, e2, (hk1 g ?_).trans e3, e4⟩
  rintro rfl
  exact hvb (by rw [e1]; rfl)
 obtain ⟨i, hi, hz, hs1, hs2⟩ := infoByte
 obtain ⟨v', w2, hrun, hown2, hgr, hnil⟩ := Lib.run_append_own_string (P := Tryz.prog) w1 w0.heap.size 37 9 37 5 i Tryz.underlying37 Tryz.underlying9 hi hz hs1 hs2 v xs.length (Lib.byteCells xs) hown1 ⟨ys.toArray⟩ (by rw [size_mk]; unfold maxLen; omega) (by rw [size_mk]; omega) hx01.size
 have hg2 : w2.heap[b]? = some (.cells (lsC ws m (.pointer (some ⟨b, 2, none⟩)) v).toArray 41 (0, 0)) := (hgr.block b hlt1 fun e => hvb e.symm).trans hg1
 have hm2 : w2.heap[m]? = w.heap[m]? := (hgr.block m (by rw [<- hk1 m hbm] at hm; exact lt_of_at hm) fun e => hvm e.symm).trans (hk1 m hbm)
 have hx02 : Ext [] w0 w2 := by
  refine ⟨hgr.os.trans hx01.os, hgr.tape.trans hx01.tape, hgr.output.trans hx01.output, Nat.le_trans hx01.size hgr.size, fun k hk _ => ?_⟩
  refine (hgr.block k (Nat.lt_of_lt_of_le hk hx01.size) fun e => ?_).trans (hx01.kept k hk (by simp))
  rcases hown.2 with ⟨rfl, _⟩ | ⟨g, cap, cur, rfl, hgb, _⟩
  ·cases e
  ·simp [Value.ownBlock] at e
   omega
 obtain ⟨a', n', c', rfl⟩ : ∃ a n c, v' = .slice a n c := by
  rcases hown2.2 with ⟨rfl, _⟩ | ⟨g, cap, cur, rfl, _⟩
  ·exact ⟨_, _, _, rfl⟩
  ·exact ⟨_, _, _, rfl⟩
 unfold lsC at hg1 hg2
 simp (disch := first | exact qDR | fail) only [qG5, Nat.reduceAdd, Nat.reduceLeDiff, Int.reduceToNat, Int.reduceAdd, Int.reduceSub, Int.reduceLT, Int.reduceLE, Nat.reduceSub, Nat.reduceMul, Nat.reduceEqDiff, hg1, hrun, hg2]
 have hv2 : (Value.slice a' n' c').ownBlock ≠ some b := own_ne hown2 hg2 (by decide)
 refine hK _ _ ⟨h.bb, h.bm, hx02.updN h.bb, ?_, .pointer (some ⟨b, 2, none⟩), .slice a' n' c', .inr rfl, upd_at hg2, ?_, fun hn => hnil.2 ?_⟩
 ·exact MapF.kept h.map ((upd_ne hbm).trans hm2)
 ·rw [size_mk] at hown2
  rw [List.length_append, Lib.byteCells_append]
  refine ⟨hown2.1, hown2.2.imp id ?_⟩
  rintro ⟨g, cap, cur, e1, e2, e3, e4⟩
  refine ⟨g, cap, cur, e1, e2, (upd_ne ?_).trans e3, e4⟩
  rintro rfl
  exact hv2 (by rw [e1]; rfl)
 ·obtain ⟨e1, e2⟩ := List.append_eq_nil_iff.1 hn
  exact ⟨h0 e1, by rw [size_mk, e2]; rfl⟩
theorem line_spec {w0 w : World} {b m : Nat} {ws : Value} {f : Int -> Option Bool} {xs ys : List UInt8} (h : Lst w0 w b m ws f xs) (hl : xs.length + ys.length <= 90000000) {K : Value -> World -> Prop} (hK : ∀ w', Lst w0 w' b m ws f (xs ++ (ys ++ [10])) -> K (.tuple #[]) w') :
  callsK Tryz.prog 11 #[.pointer (some ⟨b, 0, none⟩), .string ⟨ys.toArray⟩] w K := by
 apply F11_ok
 unfold F11
 have hadd := addS (a := ys) (b := [10]) (by simp; omega)
 simp (disch := first | exact qDR | fail) only [qG5, Nat.reduceAdd, Nat.reduceLeDiff, Int.reduceToNat, Int.reduceAdd, Int.reduceSub, Int.reduceLT, Int.reduceLE, Nat.reduceSub, Nat.reduceMul, Nat.reduceEqDiff, hadd]
 exact wstr_spec h (by simp; omega) fun v w' h' => hK _ h'
theorem str_spec {w0 w : World} {b m : Nat} {ws : Value} {f : Int -> Option Bool} {xs : List UInt8} (h : Lst w0 w b m ws f xs) {K : Value -> World -> Prop} (hK : ∀ w', Ext [] w0 w' -> K (.string ⟨xs.toArray⟩) w') :
  callsK Tryz.prog 13 #[.pointer (some ⟨b, 2, none⟩)] w K := by
 apply F13_ok
 unfold F13
 by_cases he : xs = []
 ·obtain ⟨p, v, hp, hg, hown, h0⟩ := h.cells
  obtain rfl := h0 he
  subst he
  unfold lsC at hg
  have hSD : ∀ w, (Builtin.unsafeSliceData_ #[37] 94 #[.slice none 0 0]).run Tryz.prog w = .ok (.pointer none) w := fun w => Lib.run_unsafeSliceData_nil w _ _ _ _
  have hUS : ∀ w, (Builtin.unsafeString_ #[94, 3] 9 #[.pointer none, .int .i64 0]).run Tryz.prog w = .ok (.string .empty) w := fun w => Lib.run_unsafeString_none w _ _ _ none
  simp (disch := first | exact qDR | fail) only [qG5, Nat.reduceAdd, Nat.reduceLeDiff, Int.reduceToNat, Int.reduceAdd, Int.reduceSub, Int.reduceLT, Int.reduceLE, Nat.reduceSub, Nat.reduceMul, Nat.reduceEqDiff, hg, hSD, hUS]
  exact ⟨⟨hK _ h.ext.drew, hK _ h.ext.drew⟩, hK _ h.ext.drew⟩
 ·obtain ⟨p, v, hp, hg, hown, h0⟩ := h.cells
  have hl0 : xs.length ≠ 0 := by simpa using he
  obtain ⟨g, cap, cur, rfl, hbg, hgg, hnc, hcm, hcs, htake⟩ : ∃ g cap cur, v = .slice (some ⟨g, 0, none⟩) xs.length cap /\ w0.heap.size <= g /\ w.heap[g]? = some (.cells cur 5 (0, 0)) /\ xs.length <= cap /\ cap <= maxLen /\ cur.size = cap * 1 /\ cur.toList.take (xs.length * 1) = Lib.byteCells xs := by
   rcases hown.2 with ⟨_, hz⟩ | ⟨g, cap, cur, hv, r⟩
   ·exact absurd hz hl0
   ·exact ⟨g, cap, cur, hv, r⟩
  have hSD : ∀ w, (Builtin.unsafeSliceData_ #[37] 94 #[.slice (some ⟨g, 0, none⟩) xs.length cap]).run Tryz.prog w = .ok (.pointer (some ⟨g, 0, none⟩)) w :=
   fun w => Lib.run_unsafeSliceData_row w _ _ _ _ _ (by omega)
  have hUS : (Builtin.unsafeString_ #[94, 3] 9 #[.pointer (some ⟨g, 0, none⟩), .int .i64 xs.length]).run Tryz.prog w.drew = .ok (.string ⟨xs.toArray⟩) (w.drew.freeze ⟨g, 0, none⟩ xs.length) := by
   refine Lib.run_unsafeString_row w.drew 94 3 9 5 Tryz.underlying94 (by kernel_rfl) g cur.size (by have hg' : w.drew.heap[g]? = some (.cells cur 5 (0, 0)) := hgg; simp [World.shape?, hg']) xs he (by omega) (by unfold maxLen at hcm; omega) ?_
   intro j x hx
   have := hown.cells (g := g) rfl j (.int .u8 x.toNat) (by simp [Lib.byteCells, hx])
   exact this
  have hgd : w.drew.heap[b]? = some (.cells (lsC ws m p (.slice (some ⟨g, 0, none⟩) xs.length cap)).toArray 41 (0, 0)) := hg
  unfold lsC at hg hgd
  simp (disch := first | exact qDR | fail) only [qG5, Nat.reduceAdd, Nat.reduceLeDiff, Int.reduceToNat, Int.reduceAdd, Int.reduceSub, Int.reduceLT, Int.reduceLE, Nat.reduceSub, Nat.reduceMul, Nat.reduceEqDiff, hg, hgd, hSD, hUS]
  have hfr : Ext [] w0 (w.drew.freeze ⟨g, 0, none⟩ xs.length) := ext_belowS h.ext (Lib.below_freeze (RowKit.Below.drew (RowKit.Below.refl w0.heap.size w)) (p := ⟨g, 0, none⟩) hbg _)
  exact ⟨⟨hK _ hfr, hK _ hfr⟩, hK _ hfr⟩
open Go.Fx
set_option maxRecDepth 100000
theorem decGo_some (W : Nat) : ∀ f k, ((decGo W f k).2 = true -> ∃ j, k <= j /\ j < k + f /\ W &&& fixM (row j) = fixW (row j) /\ decGo W f k = (ofK W j, true)) /\ ((decGo W f k).2 = false -> decGo W f k = (⟨0, 0, 0, 0, 0⟩, false))
 | 0, k => ⟨nofun, fun _ => rfl⟩
 | f + 1, k => by
  rw [decGo]
  split
  ·rename_i h
   exact ⟨fun _ => ⟨k, Nat.le_refl _, by omega, h, rfl⟩, nofun⟩
  ·obtain ⟨h1, h2⟩ := decGo_some W f (k + 1)
   exact ⟨fun h => (h1 h).imp fun j hj => ⟨by omega, by omega, hj.2.2⟩, h2⟩
theorem dcd_some {W : Nat} (h : (dcdF W).2 = true) : ∃ j, j < 69 /\ W &&& fixM (row j) = fixW (row j) /\ dcdF W = (ofK W j, true) := by
 obtain ⟨j, -, h1, h2, h3⟩ := (decGo_some W 69 0).1 h
 exact ⟨j, by omega, h2, h3⟩
theorem dcd_none {W : Nat} (h : (dcdF W).2 = false) : dcdF W = (⟨0, 0, 0, 0, 0⟩, false) := (decGo_some W 69 0).2 h
theorem dcd_enc {W : Nat} (hW : W < 4294967296) (h : (dcdF W).2 = true) : encOk (dcdF W).1 = true /\ encR (dcdF W).1 = W := by
 obtain ⟨j, h1, h2, h3⟩ := dcd_some h
 rw [h3]
 exact word_back hW h1 h2
theorem ofK_im {W j : Nat} (h : (laidS (row j).s).1 = []) : (ofK W j).im = 0 := by
 have e : (laidS (row j).s).2.2.1 = false := by
  unfold laidS at h ⊢
  repeat' split at h
  all_goals first | cases h | skip
  all_goals simp [*]
 show readL (laidS (row j).s).1 (laidS (row j).s).2.1 (laidS (row j).s).2.2.1 W = 0
 rw [h, e]
 rfl
theorem rowZ_ofK {W j : Nat} (hj : j < 69) : rowZ (ofK W j).op = row j := by
 unfold rowZ okOp
 show (if decide (1 <= (j : Int) + 1 /\ (j : Int) + 1 <= 69) = true then row ((j : Int) + 1 - 1).toNat else Rw.zero) = row j
 rw [if_pos (decide_eq_true (by omega)), show ((j : Int) + 1 - 1).toNat = j by omega]
theorem in64_if {c : Bool} {x : Nat} (h : x < 2 ^ 5) : in64 (if c = true then (x : Int) else 0) := by
 unfold in64
 split <;> omega
theorem dcd_ok {W : Nat} (hW : W < 4294967296) : izOk (dcdF W).1 /\ (-10000000000 < (dcdF W).1.im /\ (dcdF W).1.im < 10000000000) := by
 cases h : (dcdF W).2 with
 | false =>
  rw [dcd_none h]
  unfold izOk in64
  dsimp only
  omega
 | true =>
  obtain ⟨j, h1, h2, h3⟩ := dcd_some h
  obtain ⟨he, -⟩ := word_back hW h1 h2
  rw [h3]
  obtain ⟨-, -, -, -, him⟩ := enc_ranges he
  rw [rowZ_ofK h1] at him
  have hm : -10000000000 < (ofK W j).im /\ (ofK W j).im < 10000000000 := by
   by_cases hl : (laidS (row j).s).1 = []
   ·rw [ofK_im hl]; omega
   ·exact him hl
  refine ⟨⟨?_, ?_, ?_, ?_, ?_⟩, hm⟩
  ·show in64 ((j : Int) + 1)
   unfold in64
   omega
  ·exact in64_if (Nat.mod_lt _ (by decide))
  ·exact in64_if (Nat.mod_lt _ (by decide))
  ·exact in64_if (Nat.mod_lt _ (by decide))
  ·unfold in64; simp only; omega
/-- where word W goes to, of n, as word k. -/
def goF (W k n : Nat) : Int × Bool := ((targetF (dcdF W).1 k n).1, (dcdF W).2 && (targetF (dcdF W).1 k n).2)
theorem goF_le {W k n : Nat} (h : (goF W k n).2 = true) : 0 <= (goF W k n).1 /\ (goF W k n).1 <= n := by
 unfold goF at *
 dsimp only at *
 simp only [Bool.and_eq_true] at h
 have h2 := h.2
 unfold targetF at *
 split at h2
 ·cases h2
 ·rename_i hc
  rw [if_neg hc]
  exact of_decide_eq_true h2
/-- what the map has behind k words. -/
def mapK (ws : List Nat) : Nat -> Int -> Option Bool
 | 0 => fun _ => none
 | k + 1 => if (goF (ws.getD k 0) k ws.length).2 then fun b => if b = (goF (ws.getD k 0) k ws.length).1 then some true else mapK ws k b else mapK ws k
/-- does one of the first k words go to place p? -/
def anyK (ws : List Nat) (k : Nat) (p : Int) : Bool := (List.range k).any fun j => (goF (ws.getD j 0) j ws.length).2 && decide ((goF (ws.getD j 0) j ws.length).1 = p)
theorem anyK_succ (ws : List Nat) (k : Nat) (p : Int) : anyK ws (k + 1) p = (anyK ws k p || ((goF (ws.getD k 0) k ws.length).2 && decide ((goF (ws.getD k 0) k ws.length).1 = p))) := by
 unfold anyK
 rw [List.range_succ, List.any_append]
 simp
theorem mapK_get (ws : List Nat) (p : Int) : ∀ k, (mapK ws k p).getD false = anyK ws k p
 | 0 => rfl
 | k + 1 => by
  rw [anyK_succ, <- mapK_get ws p k, mapK]
  cases h : (goF (ws.getD k 0) k ws.length).2
  ·simp
  ·simp only [if_true, Bool.true_and]
   by_cases hp : p = (goF (ws.getD k 0) k ws.length).1
   ·rw [if_pos hp, decide_eq_true hp.symm]; simp
   ·rw [if_neg hp, decide_eq_false (Ne.symm hp)]; simp
/-- is there a mark? -/
def mkB (ws : List Nat) (p : Int) : Bool := anyK ws ws.length p
def wordT : List UInt8 := [35, 32, 119, 111, 114, 100, 32]
/-- a word's line. -/
def lineW (W k n : Nat) : List UInt8 := if (dcdF W).2 then (if (goF W k n).2 then (textF (dcdF W).1).take (Lib.lastIndex (textF (dcdF W).1) [32] + 1).toNat ++ markF (goF W k n).1 else textF (dcdF W).1) else wordT ++ hexL 8 W
def markL (ws : List Nat) (p : Nat) : List UInt8 := if mkB ws p then markF p ++ [58] ++ [10] else []
def oneK (ws : List Nat) (k : Nat) : List UInt8 := markL ws k ++ (lineW (ws.getD k 0) k ws.length ++ [10])
def listK (ws : List Nat) (k : Nat) : List UInt8 := (List.range k).flatMap (oneK ws)
def listF (ws : List Nat) : List UInt8 := listK ws ws.length ++ markL ws ws.length
theorem listK_succ (ws : List Nat) (k : Nat) : listK ws (k + 1) = listK ws k ++ oneK ws k := by
 unfold listK
 rw [List.range_succ, List.flatMap_append]
 simp
theorem dec_le (n : Int) : (dec n).length <= 21 := dec_len
theorem markF_len (n : Int) : (markF n).length <= 22 := by
 unfold markF
 have := dec_le n
 simp; omega
theorem lineW_len (W k n : Nat) : (lineW W k n).length <= 122 := by
 unfold lineW
 have h1 := textF_len (dcdF W).1
 have h2 := markF_len (goF W k n).1
 have h3 := hexL_len 8 W
 split
 ·split
  ·rw [List.length_append, List.length_take]; omega
  ·omega
 ·rw [List.length_append, h3]; decide
theorem markL_len (ws : List Nat) (p : Nat) : (markL ws p).length <= 24 := by
 unfold markL
 have := markF_len p
 split
 ·simp; omega
 ·simp
theorem oneK_len (ws : List Nat) (k : Nat) : (oneK ws k).length <= 147 := by
 unfold oneK
 have h1 := markL_len ws k
 have h2 := lineW_len (ws.getD k 0) k ws.length
 simp only [List.length_append, List.length_cons, List.length_nil]
 omega
theorem listK_len (ws : List Nat) : ∀ k, (listK ws k).length <= 147 * k
 | 0 => Nat.le_refl _
 | k + 1 => by
  rw [listK_succ, List.length_append]
  have h1 := listK_len ws k
  have h2 := oneK_len ws k
  omega
open Go.Fx
set_option maxRecDepth 100000
theorem check_int {P : Program} {t : TypeId} {k : IntKind} {e : Bool} {n : Nat} {v : Value} (h : P.underlying t = some (.int k)) (w : World) : (Instr.checkKey e (n + 1) t v).run P w = .ok () w := by
 unfold Instr.checkKey
 rw [Sem.run_bind, run_underlying h]
 rfl
theorem keyI : KeyOk Tryz.prog 3 iV64 := by
 refine ⟨.inl ⟨_, Tryz.underlying3, fun a b => ?_⟩, fun e a w => check_int Tryz.underlying3 w, fun a => ?_⟩
 ·show some (a == b) = some (decide (a = b))
  congr 1
 ·simp [iV64, Instr.sameBits]
theorem boolZ (w : World) : (zeroValue 4).run Tryz.prog w = .ok (.bool false) w := Tryz.zeroValue4 w
theorem look_ls {w0 w w' : World} {b m : Nat} {ws : Value} {f : Int -> Option Bool} {xs : List UInt8} (h : Lst w0 w b m ws f xs) (p : Int) : (Instr.lookup 35 (.map (some m)) (.int .i64 p) false).run Tryz.prog w = .ok (.bool ((f p).getD false)) w := by
 have := run_lookM (kf := iV64) (vf := Value.bool) (P := Tryz.prog) Tryz.underlying35 keyI boolZ h.map p false
 simp only [Bool.false_eq_true, if_false, iV64] at this
 rw [this]
 cases f p <;> rfl
theorem Lst.upd {w0 w w' : World} {b m : Nat} {ws : Value} {f f' : Int -> Option Bool} {xs : List UInt8} (h : Lst w0 w b m ws f xs) (hm : MapF w' m iV64 Value.bool f') (hx : Ext [m] w w') : Lst w0 w' b m ws f' xs := by
 obtain ⟨p, v, hp, hg, hown, h0⟩ := h.cells
 obtain ⟨es, cl, hmo⟩ := MapF.obj h.map
 have hbm : b ≠ m := fun e => by subst e; rw [hg] at hmo; cases hmo
 have hvm : v.ownBlock ≠ some m := own_nem hown hmo
 refine ⟨h.bb, h.bm, h.ext.trans hx (by intro k hk; simp at hk; subst hk; exact .inr h.bm), hm, p, v, hp, hx.at hg (by simp; exact hbm), ⟨hown.1, hown.2.imp id ?_⟩, h0⟩
 rintro ⟨g, cap, cur, e1, e2, e3, e4⟩
 refine ⟨g, cap, cur, e1, e2, hx.at e3 ?_, e4⟩
 intro hk
 simp at hk
 exact hvm (by rw [e1, hk]; rfl)
theorem find_spec {w0 w : World} {b m : Nat} {ws : Value} {L : List Nat} (h : Lst w0 w b m ws (mapK L 0) []) (hv : RowsAt w0 ws 1 (L.map wC)) (hL : ∀ x ∈ L, x < 4294967296) (hn : L.length <= 100) {K : Value -> World -> Prop} (hK : ∀ w', Lst w0 w' b m ws (mapK L L.length) [] -> K (.tuple #[]) w') :
  callsK Tryz.prog 9 #[.pointer (some ⟨b, 0, none⟩)] w K := by
 apply F9_ok
 unfold F9
 obtain ⟨p, v, hp, hg, hown⟩ := h.cells
 have hvw := hv.ext h.ext (by simp)
 have hlv := hvw.lenR (ty := 3) Tryz.underlying22
 rw [List.length_map] at hlv
 unfold lsC at hg
 simp (disch := first | exact qD5 | fail) only [qG5, Nat.reduceAdd, Nat.reduceLeDiff, Int.reduceToNat, Int.reduceAdd, Int.reduceSub, Int.reduceLT, Int.reduceLE, Nat.reduceSub, Nat.reduceMul, Nat.reduceEqDiff, hg, hlv]
 refine loopT.intro (fun st w' => ∃ (k : Nat), k <= L.length /\ st = [.int .i64 (k : Nat)] /\ Lst w0 w' b m ws (mapK L k) [] /\ Ext [b, m] w w')
  (fun st _ => match st with
   | [.int _ z] => L.length - z.toNat
   | _ => 0) ⟨0, Nat.zero_le _, rfl, h, Ext.refl⟩ ?_
 rintro st w1 ⟨k, hk, rfl, h1, hx1⟩ _
 obtain ⟨p1, v1, hp1, hg1, hown1⟩ := h1.cells
 unfold lsC at hg1
 have hv1 := hv.ext h1.ext (by simp)
 by_cases hkl : k < L.length
 ·obtain ⟨bv, o, lv, E, f, hix, hbv, hfit, hblt, hbk, hsub, hget⟩ := RowsAt.ixR (P := Tryz.prog) (t := 22) Tryz.underlying22 Tryz.sizeOf28 hv1 (k := k) (r := wC L[k]) (by simp [hkl])
  have hc0 : lv[o]? = some (.int .u32 (L[k] : Nat)) := hget (o + 0) 0 rfl (by omega)
  have hi0 := fun w => hix w .i64 k rfl
  have hW : L[k] < 4294967296 := hL _ (List.getElem_mem hkl)
  have hgd : L.getD k 0 = L[k] := by simp [hkl]
  simp (disch := first | exact qD5 | fail) only [qG5, Nat.reduceAdd, Nat.reduceLeDiff, Int.reduceToNat, Int.reduceAdd, Int.reduceSub, Int.reduceLT, Int.reduceLE, Nat.reduceSub, Nat.reduceMul, Nat.reduceEqDiff, hi0, hbv, hc0]
  refine joinL.intro fun J2 hJ2 => ?_
  simp (disch := first | exact qD5 | fail) only [qG5, Nat.reduceAdd, Nat.reduceLeDiff, Int.reduceToNat, Int.reduceAdd, Int.reduceSub, Int.reduceLT, Int.reduceLE, Nat.reduceSub, Nat.reduceMul, Nat.reduceEqDiff, hi0, hbv, hc0]
  refine Decode_spec hW fun w2 hx2 => ?_
  have h2 := h1.ext0 hx2
  obtain ⟨hok, him⟩ := dcd_ok hW
  have z1 : ∀ i : IZ, splice [.int .i64 0, .int .i64 0, .int .i64 0, .int .i64 0, .int .i64 0] 0 (izC i) = izC i := fun _ => rfl
  have hG : goF L[k] k L.length = ((targetF (dcdF L[k]).1 k L.length).1, (dcdF L[k]).2 && (targetF (dcdF L[k]).1 k L.length).2) := rfl
  generalize dcdF L[k] = D at *
  generalize hT : targetF D.1 k L.length = T at *
  simp (disch := first | exact qD5 | fail) only [qG5, Nat.reduceAdd, Nat.reduceLeDiff, Int.reduceToNat, Int.reduceAdd, Int.reduceSub, Int.reduceLT, Int.reduceLE, Nat.reduceSub, Nat.reduceMul, Nat.reduceEqDiff, z1]
  have hx3 : Ext [] w2 (w2.alloc (.cells (izC D.1).toArray 25)).drew := qX
  refine joinL.intro fun J4 hJ4 => ?_
  have hgo : ∀ w4, Ext [] w2 w4 -> J4 [.int .i64 T.1, .bool T.2] w4 := by
   intro w4 hx4
   apply hJ4
   intro _
   have h4 := h2.ext0 hx4
   obtain ⟨p4, v4, hp4, hg4, hown4⟩ := h4.cells
   unfold lsC at hg4
   have hfin : ∀ w5, Lst w0 w5 b m ws (mapK L (k + 1)) [] -> Ext [b, m] w w5 -> J2 [] w5 := by
    intro w5 h5 hx5
    apply hJ2
    intro _
    simp (disch := first | exact qD5 | fail) only [qG5, Nat.reduceAdd, Nat.reduceLeDiff, Int.reduceToNat, Int.reduceAdd, Int.reduceSub, Int.reduceLT, Int.reduceLE, Nat.reduceSub, Nat.reduceMul, Nat.reduceEqDiff]
    exact ⟨⟨k + 1, hkl, by congr 3, h5, hx5⟩, by omega⟩
   have hxm : Ext [b, m] w w4 := (hx1.trans hx2 (by simp)).trans hx4 (by simp)
   have hmk : mapK L (k + 1) = if D.2 && T.2 then fun b => if b = T.1 then some true else mapK L k b else mapK L k := by
    show (if (goF (L.getD k 0) k L.length).2 then _ else _) = _
    rw [hgd, hG]
   cases hd : D.2 with
   | false =>
    rw [hd] at hmk
    simp (disch := first | exact qD5 | fail) only [qG5, Nat.reduceAdd, Nat.reduceLeDiff, Int.reduceToNat, Int.reduceAdd, Int.reduceSub, Int.reduceLT, Int.reduceLE, Nat.reduceSub, Nat.reduceMul, Nat.reduceEqDiff, joinBR]
    exact hfin _ (by rw [hmk]; exact h4) hxm
   | true =>
    cases ht : T.2 with
    | false =>
     rw [hd, ht] at hmk
     simp (disch := first | exact qD5 | fail) only [qG5, Nat.reduceAdd, Nat.reduceLeDiff, Int.reduceToNat, Int.reduceAdd, Int.reduceSub, Int.reduceLT, Int.reduceLE, Nat.reduceSub, Nat.reduceMul, Nat.reduceEqDiff, joinBR]
     exact hfin _ (by rw [hmk]; exact h4) hxm
    | true =>
     rw [hd, ht] at hmk
     simp (disch := first | exact qD5 | fail) only [qG5, Nat.reduceAdd, Nat.reduceLeDiff, Int.reduceToNat, Int.reduceAdd, Int.reduceSub, Int.reduceLT, Int.reduceLE, Nat.reduceSub, Nat.reduceMul, Nat.reduceEqDiff, joinBR, hg4]
     refine run_updM (kf := iV64) (vf := Value.bool) (P := Tryz.prog) Tryz.underlying35 keyI h4.map T.1 true fun w5 hm5 hx5 => ?_
     exact hfin _ (h4.upd (by rw [hmk]; exact hm5) hx5) (hxm.trans hx5 (by simp))
  have g3 : (w2.alloc (.cells (izC D.1).toArray 25)).heap[b]? = _ := hx3.at (hx2.at hg1 (by simp)) (by simp)
  have g4 : (w2.alloc (.cells (izC D.1).toArray 25)).drew.heap[w2.heap.size]? = some (.cells (izC D.1).toArray 25 (0, 0)) := alloc_at rfl
  simp (disch := first | exact qD5 | fail) only [qG5, Nat.reduceAdd, Nat.reduceLeDiff, Int.reduceToNat, Int.reduceAdd, Int.reduceSub, Int.reduceLT, Int.reduceLE, Nat.reduceSub, Nat.reduceMul, Nat.reduceEqDiff, g3, g4, izC_sub, hlv]
  refine ⟨?_, ?_⟩
  ·refine target_spec (a := k) (n := L.length) hok (by omega) (by omega) him fun w4 hx4 => ?_
   rw [hT]
   simp (disch := first | exact qD5 | fail) only [qG5, Nat.reduceAdd, Nat.reduceLeDiff, Int.reduceToNat, Int.reduceAdd, Int.reduceSub, Int.reduceLT, Int.reduceLE, Nat.reduceSub, Nat.reduceMul, Nat.reduceEqDiff]
   exact hgo _ (hx3.trans hx4 (by simp))
  ·refine target_spec (a := k) (n := L.length) hok (by omega) (by omega) him fun w4 hx4 => ?_
   rw [hT]
   simp (disch := first | exact qD5 | fail) only [qG5, Nat.reduceAdd, Nat.reduceLeDiff, Int.reduceToNat, Int.reduceAdd, Int.reduceSub, Int.reduceLT, Int.reduceLE, Nat.reduceSub, Nat.reduceMul, Nat.reduceEqDiff]
   exact hgo _ (hx3.trans hx4 (by simp))
 ·simp (disch := first | exact qD5 | fail) only [qG5, Nat.reduceAdd, Nat.reduceLeDiff, Int.reduceToNat, Int.reduceAdd, Int.reduceSub, Int.reduceLT, Int.reduceLE, Nat.reduceSub, Nat.reduceMul, Nat.reduceEqDiff]
  obtain rfl : k = L.length := by omega
  exact hK _ h1
theorem toldK_ge (s : List UInt8) : -1 <= toldK s := by
 unfold toldK Lib.lastIndex
 split
 ·rcases Lib.lastOcc_spec s [32] (s.length - [(32 : UInt8)].length + 1) with ⟨h, -⟩ | ⟨i, -, h, -⟩ <;> omega
 ·omega
theorem notB (b : Bool) (w : World) : (Op.unary .not (.bool b)).run Tryz.prog w = .ok (.bool (!b)) w := rfl
theorem list_spec {w0 w : World} {b m k : Nat} {ws : Value} {L : List Nat} {xs : List UInt8} (h : Lst w0 w b m ws (mapK L L.length) xs) (hv : RowsAt w0 ws 1 (L.map wC)) (hL : ∀ x ∈ L, x < 4294967296) (hn : L.length <= 100) (hk : k < L.length) (hxl : xs.length <= 100000) {K : Value -> World -> Prop} (hK : ∀ w', Lst w0 w' b m ws (mapK L L.length) (xs ++ oneK L k) -> K (.tuple #[]) w') :
  callsK Tryz.prog 10 #[.pointer (some ⟨b, 0, none⟩), .int .i64 (k : Nat), .int .u32 (L[k] : Nat)] w K := by
 apply F10_ok
 unfold F10
 obtain ⟨p, v, hp, hg, hown⟩ := h.cells
 unfold lsC at hg
 have hlk := look_ls (w' := w) h k
 rw [mapK_get] at hlk
 have hlk' : (Instr.lookup 35 (.map (some m)) (.int .i64 (k : Nat)) false).run Tryz.prog w = .ok (.bool (mkB L (k : Nat))) w := hlk
 have hML : markL L k = if mkB L (k : Nat) then markF k ++ [58] ++ [10] else [] := rfl
 have hone : oneK L k = markL L k ++ (lineW L[k] k L.length ++ [10]) := by unfold oneK; simp [hk]
 have hW : L[k] < 4294967296 := hL _ (List.getElem_mem hk)
 have hmkl := markF_len (k : Nat)
 refine joinL.intro fun J0 hJ0 => ?_
 have hgo : ∀ w1, Lst w0 w1 b m ws (mapK L L.length) (xs ++ markL L k) -> J0 [] w1 := by
  intro w1 h1
  apply hJ0
  intro _
  obtain ⟨p1, v1, hp1, hg1, hown1⟩ := h1.cells
  unfold lsC at hg1
  have hv1 := hv.ext h1.ext (by simp)
  have hlv := hv1.lenR (ty := 3) Tryz.underlying22
  rw [List.length_map] at hlv
  simp (disch := first | exact qD5 | fail) only [qG5, Nat.reduceAdd, Nat.reduceLeDiff, Int.reduceToNat, Int.reduceAdd, Int.reduceSub, Int.reduceLT, Int.reduceLE, Nat.reduceSub, Nat.reduceMul, Nat.reduceEqDiff]
  refine Decode_spec hW fun w2 hx2 => ?_
  have h2 := h1.ext0 hx2
  obtain ⟨hok, him⟩ := dcd_ok hW
  have z1 : ∀ i : IZ, splice [.int .i64 0, .int .i64 0, .int .i64 0, .int .i64 0, .int .i64 0] 0 (izC i) = izC i := fun _ => rfl
  have hG : goF L[k] k L.length = ((targetF (dcdF L[k]).1 k L.length).1, (dcdF L[k]).2 && (targetF (dcdF L[k]).1 k L.length).2) := rfl
  have hl0 := lineW_len L[k] k L.length
  have hmk0 := markL_len L k
  have hLW : lineW L[k] k L.length = if (dcdF L[k]).2 then (if (goF L[k] k L.length).2 then (textF (dcdF L[k]).1).take (Lib.lastIndex (textF (dcdF L[k]).1) [32] + 1).toNat ++ markF (goF L[k] k L.length).1 else textF (dcdF L[k]).1) else wordT ++ hexL 8 L[k] := rfl
  rw [hG] at hLW
  have hfin : ∀ w5, Lst w0 w5 b m ws (mapK L L.length) (xs ++ markL L k ++ (lineW L[k] k L.length ++ [10])) -> K (.tuple #[]) w5 := by
   intro w5 h5
   refine hK _ ?_
   rw [hone, <- List.append_assoc]
   exact h5
  generalize lineW L[k] k L.length = LW at *
  generalize dcdF L[k] = D at *
  generalize hT : targetF D.1 k L.length = T at *
  have hx3 : Ext [] w2 (w2.alloc (.cells (izC D.1).toArray 25)) := qX
  have h3 := h2.ext0 hx3
  have hlx : (xs ++ markL L k).length <= 200000 := by rw [List.length_append]; omega
  generalize xs ++ markL L k = X at *
  cases hd : D.2 with
  | false =>
   rw [hd] at hLW
   simp (disch := first | exact qD5 | fail) only [qG5, Nat.reduceAdd, Nat.reduceLeDiff, Int.reduceToNat, Int.reduceAdd, Int.reduceSub, Int.reduceLT, Int.reduceLE, Nat.reduceSub, Nat.reduceMul, Nat.reduceEqDiff, z1, notB]
   refine hex_spec hW fun w4 hx4 => ?_
   have hadd := addS (a := wordT) (b := hexL 8 L[k]) (by rw [hexL_len]; decide)
   have hwt : (⟨#[35, 32, 119, 111, 114, 100, 32]⟩ : ByteArray) = ⟨wordT.toArray⟩ := rfl
   rw [hwt]
   simp (disch := first | exact qD5 | fail) only [qG5, Nat.reduceAdd, Nat.reduceLeDiff, Int.reduceToNat, Int.reduceAdd, Int.reduceSub, Int.reduceLT, Int.reduceLE, Nat.reduceSub, Nat.reduceMul, Nat.reduceEqDiff, hadd]
   have e : wordT ++ hexL 8 L[k] = LW := by rw [hLW]; rfl
   rw [e]
   exact line_spec (h3.ext0 hx4) (by omega) fun w5 h5 => hfin _ h5
  | true =>
   rw [hd] at hLW
   simp (disch := first | exact qD5 | fail) only [qG5, Nat.reduceAdd, Nat.reduceLeDiff, Int.reduceToNat, Int.reduceAdd, Int.reduceSub, Int.reduceLT, Int.reduceLE, Nat.reduceSub, Nat.reduceMul, Nat.reduceEqDiff, z1, notB, izC_sub]
   refine Text_spec hok fun w4 hx4 => ?_
   have hx5 := hx3.trans hx4 (by simp)
   have h4 := h2.ext0 hx5
   have g3 : (w2.alloc (.cells (izC D.1).toArray 25)).heap[w2.heap.size]? = some (.cells (izC D.1).toArray 25 (0, 0)) := alloc_at rfl
   have g4 := hx4.at g3 (by simp)
   have gb4 := hx5.at (hx2.at hg1 (by simp)) (by simp)
   have htl := textF_len D.1
   have hkk : Lib.lastIndex (textF D.1) [32] = toldK (textF D.1) := rfl
   have hkl := toldK_lt (textF D.1)
   have hkg := toldK_ge (textF D.1)
   rw [hkk] at hLW
   generalize textF D.1 = t at *
   refine joinL.intro fun J2 hJ2 => ?_
   have hend : ∀ w5, Ext [] w4 w5 -> J2 [.string ⟨LW.toArray⟩] w5 := by
    intro w5 hx6
    apply hJ2
    intro _
    simp (disch := first | exact qD5 | fail) only [qG5, Nat.reduceAdd, Nat.reduceLeDiff, Int.reduceToNat, Int.reduceAdd, Int.reduceSub, Int.reduceLT, Int.reduceLE, Nat.reduceSub, Nat.reduceMul, Nat.reduceEqDiff]
    refine line_spec (h4.ext0 hx6) (by omega) fun w6 h6 => ?_
    exact hfin _ h6
   refine joinL.intro fun J4 hJ4 => ?_
   have hmid : ∀ w5, Ext [] w4 w5 -> J4 [.int .i64 T.1, .bool T.2] w5 := by
    intro w5 hx6
    apply hJ4
    intro _
    cases ht : T.2 with
    | false =>
     rw [ht] at hLW
     have e : t = LW := by rw [hLW]; rfl
     simp (disch := first | exact qD5 | fail) only [qG5, Nat.reduceAdd, Nat.reduceLeDiff, Int.reduceToNat, Int.reduceAdd, Int.reduceSub, Int.reduceLT, Int.reduceLE, Nat.reduceSub, Nat.reduceMul, Nat.reduceEqDiff]
     rw [e]
     exact hend _ hx6
    | true =>
     rw [ht] at hLW
     obtain ⟨kn, hkn⟩ : ∃ kn : Nat, kn = (toldK t + 1).toNat := ⟨_, rfl⟩
     rw [<- hkn] at hLW
     have hcutB : ∀ w, (Instr.sliceAt 9 (.string ⟨t.toArray⟩) none (some (.int .i64 (toldK t + 1))) none).run Tryz.prog w = .ok (.string ⟨(t.take kn).toArray⟩) w := by
      intro w
      have hsz := size_mk t
      rw [run_cutS Tryz.underlying9 ⟨t.toArray⟩ _ _ (l := 0) (h := kn) (fun w => by rw [hsz]; exact (slR.2.1 _ _ _ _ _ _ (by omega)).trans (by rw [hkn])), cut_mk]
      rw [List.drop_zero, Nat.sub_zero]
     have hTi : in64 T.1 := by
      rw [<- hT]
      unfold in64 targetF
      split
      ·simp
      ·dsimp only; omega
     have hml := markF_len T.1
     have hadd := addS (a := t.take kn) (b := markF T.1) (by rw [List.length_take]; omega)
     have e : t.take kn ++ markF T.1 = LW := by rw [hLW]; rfl
     rw [e] at hadd
     simp (disch := first | exact qD5 | fail) only [qG5, Nat.reduceAdd, Nat.reduceLeDiff, Int.reduceToNat, Int.reduceAdd, Int.reduceSub, Int.reduceLT, Int.reduceLE, Nat.reduceSub, Nat.reduceMul, Nat.reduceEqDiff]
     refine LastIndex_spec (s := t) (p := [32]) (by omega) ?_
     rw [hkk]
     simp (disch := first | exact qD5 | fail) only [qG5, Nat.reduceAdd, Nat.reduceLeDiff, Int.reduceToNat, Int.reduceAdd, Int.reduceSub, Int.reduceLT, Int.reduceLE, Nat.reduceSub, Nat.reduceMul, Nat.reduceEqDiff, hcutB]
     refine markName_spec hTi fun w6 hx7 => ?_
     simp (disch := first | exact qD5 | fail) only [qG5, Nat.reduceAdd, Nat.reduceLeDiff, Int.reduceToNat, Int.reduceAdd, Int.reduceSub, Int.reduceLT, Int.reduceLE, Nat.reduceSub, Nat.reduceMul, Nat.reduceEqDiff, hadd]
     exact hend _ (hx6.drew.trans hx7 (by simp))
   simp (disch := first | exact qD5 | fail) only [qG5, Nat.reduceAdd, Nat.reduceLeDiff, Int.reduceToNat, Int.reduceAdd, Int.reduceSub, Int.reduceLT, Int.reduceLE, Nat.reduceSub, Nat.reduceMul, Nat.reduceEqDiff, gb4, g4, izC_sub, hlv]
   refine ⟨?_, ?_⟩
   ·refine target_spec (a := k) (n := L.length) hok (by omega) (by omega) him fun w5 hx6 => ?_
    rw [hT]
    simp (disch := first | exact qD5 | fail) only [qG5, Nat.reduceAdd, Nat.reduceLeDiff, Int.reduceToNat, Int.reduceAdd, Int.reduceSub, Int.reduceLT, Int.reduceLE, Nat.reduceSub, Nat.reduceMul, Nat.reduceEqDiff]
    exact hmid _ (Ext.refl.drew.trans hx6 (by simp))
   ·refine target_spec (a := k) (n := L.length) hok (by omega) (by omega) him fun w5 hx6 => ?_
    rw [hT]
    simp (disch := first | exact qD5 | fail) only [qG5, Nat.reduceAdd, Nat.reduceLeDiff, Int.reduceToNat, Int.reduceAdd, Int.reduceSub, Int.reduceLT, Int.reduceLE, Nat.reduceSub, Nat.reduceMul, Nat.reduceEqDiff]
    exact hmid _ (Ext.refl.drew.trans hx6 (by simp))
 cases hb : mkB L (k : Nat) with
 | false =>
  rw [hb] at hlk' hML
  simp (disch := first | exact qD5 | fail) only [qG5, Nat.reduceAdd, Nat.reduceLeDiff, Int.reduceToNat, Int.reduceAdd, Int.reduceSub, Int.reduceLT, Int.reduceLE, Nat.reduceSub, Nat.reduceMul, Nat.reduceEqDiff, hg, hlk']
  refine hgo _ ?_
  rw [hML]
  simpa using h
 | true =>
  rw [hb] at hlk' hML
  simp (disch := first | exact qD5 | fail) only [qG5, Nat.reduceAdd, Nat.reduceLeDiff, Int.reduceToNat, Int.reduceAdd, Int.reduceSub, Int.reduceLT, Int.reduceLE, Nat.reduceSub, Nat.reduceMul, Nat.reduceEqDiff, hg, hlk']
  refine markName_spec (by unfold in64; omega) fun w1 hx1 => ?_
  have hadd := addS (a := markF k) (b := [58]) (by simp; omega)
  simp (disch := first | exact qD5 | fail) only [qG5, Nat.reduceAdd, Nat.reduceLeDiff, Int.reduceToNat, Int.reduceAdd, Int.reduceSub, Int.reduceLT, Int.reduceLE, Nat.reduceSub, Nat.reduceMul, Nat.reduceEqDiff, hadd]
  refine line_spec (h.ext0 hx1) (by simp; omega) fun w2 h2 => ?_
  refine hgo _ ?_
  rw [hML]
  simpa using h2
open Go.Fx
set_option maxRecDepth 100000
theorem Listing_spec {w : World} {ws : Value} {L : List Nat} (hv : RowsAt w ws 1 (L.map wC)) (hL : ∀ x ∈ L, x < 4294967296) (hn : L.length <= 100) {K : Value -> World -> Prop} (hK : ∀ w', Ext [] w w' -> K (.string ⟨(listF L).toArray⟩) w') :
  callsK Tryz.prog 4 #[ws] w K := by
 apply F4_ok
 unfold F4
 have hlv := hv.lenR (ty := 3) Tryz.underlying22
 rw [List.length_map] at hlv
 obtain ⟨wa, wl, wc, rfl⟩ : ∃ a l c, ws = .slice a l c := by
  obtain ⟨a, c, h, -⟩ := hv
  exact ⟨a, _, c, h⟩
 have hmk := fun w => run_mkM (P := Tryz.prog) 35 w
 simp (disch := first | exact qDR | fail) only [qG5, Nat.reduceAdd, Nat.reduceLeDiff, Int.reduceToNat, Int.reduceAdd, Int.reduceSub, Int.reduceLT, Int.reduceLE, Nat.reduceSub, Nat.reduceMul, Nat.reduceEqDiff, hmk]
 have hx0 : Ext [] w ((w.alloc (.map #[] 0)).alloc (.cells (lsC (.slice wa wl wc) w.heap.size (.pointer none) (.slice none 0 0)).toArray 41)) := Ext.alloc Ext.refl.allocM _ _
 have hs1 : (w.alloc (.map #[] 0)).heap.size = w.heap.size + 1 := Array.size_push _
 have h0 : Lst w ((w.alloc (.map #[] 0)).alloc (.cells (lsC (.slice wa wl wc) w.heap.size (.pointer none) (.slice none 0 0)).toArray 41)) (w.heap.size + 1) w.heap.size (.slice wa wl wc) (mapK L 0) [] := by
  refine ⟨by omega, Nat.le_refl _, hx0, ?_, _, _, .inl rfl, ?_, ⟨rfl, .inl ⟨rfl, rfl⟩⟩, fun _ => rfl⟩
  ·exact MapF.ext (S := []) MapF.make (Ext.alloc Ext.refl _ _) (by simp)
  ·exact alloc_at hs1.symm
 unfold lsC at h0
 refine find_spec h0 hv hL hn fun w1 h1 => ?_
 simp (disch := first | exact qDR | fail) only [qG5, Nat.reduceAdd, Nat.reduceLeDiff, Int.reduceToNat, Int.reduceAdd, Int.reduceSub, Int.reduceLT, Int.reduceLE, Nat.reduceSub, Nat.reduceMul, Nat.reduceEqDiff, hlv]
 refine loopT.intro (fun st w' => ∃ (k : Nat), k <= L.length /\ st = [.int .i64 (k : Nat)] /\ Lst w w' (w.heap.size + 1) w.heap.size (.slice wa wl wc) (mapK L L.length) (listK L k))
  (fun st _ => match st with
   | [.int _ z] => L.length - z.toNat
   | _ => 0) ⟨0, Nat.zero_le _, rfl, h1⟩ ?_
 rintro st w2 ⟨k, hk, rfl, h2⟩ _
 have hv2 := hv.ext h2.ext (by simp)
 have hll := listK_len L k
 by_cases hkl : k < L.length
 ·obtain ⟨bv, o, lv, E, f, hix, hbv, hfit, hblt, hbk, hsub, hget⟩ := RowsAt.ixR (P := Tryz.prog) (t := 22) Tryz.underlying22 Tryz.sizeOf28 hv2 (k := k) (r := wC L[k]) (by simp [hkl])
  have hc0 : lv[o]? = some (.int .u32 (L[k] : Nat)) := hget (o + 0) 0 rfl (by omega)
  have hi0 := fun w => hix w .i64 k rfl
  simp (disch := first | exact qDR | fail) only [qG5, Nat.reduceAdd, Nat.reduceLeDiff, Int.reduceToNat, Int.reduceAdd, Int.reduceSub, Int.reduceLT, Int.reduceLE, Nat.reduceSub, Nat.reduceMul, Nat.reduceEqDiff, hi0, hbv, hc0]
  refine list_spec h2 hv hL hn hkl (by omega) fun w3 h3 => ?_
  simp (disch := first | exact qDR | fail) only [qG5, Nat.reduceAdd, Nat.reduceLeDiff, Int.reduceToNat, Int.reduceAdd, Int.reduceSub, Int.reduceLT, Int.reduceLE, Nat.reduceSub, Nat.reduceMul, Nat.reduceEqDiff]
  refine ⟨⟨k + 1, hkl, by congr 3, ?_⟩, by omega⟩
  rw [listK_succ]
  exact h3
 ·obtain rfl : k = L.length := by omega
  simp (disch := first | exact qDR | fail) only [qG5, Nat.reduceAdd, Nat.reduceLeDiff, Int.reduceToNat, Int.reduceAdd, Int.reduceSub, Int.reduceLT, Int.reduceLE, Nat.reduceSub, Nat.reduceMul, Nat.reduceEqDiff]
  refine joinL.intro fun J2 hJ2 => ?_
  have hfin : ∀ w3, Lst w w3 (w.heap.size + 1) w.heap.size (.slice wa wl wc) (mapK L L.length) (listF L) -> J2 [] w3 := by
   intro w3 h3
   apply hJ2
   intro _
   simp (disch := first | exact qDR | fail) only [qG5, Nat.reduceAdd, Nat.reduceLeDiff, Int.reduceToNat, Int.reduceAdd, Int.reduceSub, Int.reduceLT, Int.reduceLE, Nat.reduceSub, Nat.reduceMul, Nat.reduceEqDiff]
   exact str_spec h3 fun w4 hx4 => hK _ hx4
  have hlk := look_ls (w' := w2) h2 L.length
  rw [mapK_get] at hlk
  have hlk' : (Instr.lookup 35 (.map (some w.heap.size)) (.int .i64 (L.length : Nat)) false).run Tryz.prog w2 = .ok (.bool (mkB L (L.length : Nat))) w2 := hlk
  have hML : markL L L.length = if mkB L (L.length : Nat) then markF L.length ++ [58] ++ [10] else [] := rfl
  have hLF : listF L = listK L L.length ++ markL L L.length := rfl
  obtain ⟨p2, v2, hp2, hg2, -, -⟩ := h2.cells
  unfold lsC at hg2
  have hmkl := markF_len (L.length : Nat)
  cases hb : mkB L (L.length : Nat) with
  | false =>
   rw [hb] at hlk' hML
   simp (disch := first | exact qDR | fail) only [qG5, Nat.reduceAdd, Nat.reduceLeDiff, Int.reduceToNat, Int.reduceAdd, Int.reduceSub, Int.reduceLT, Int.reduceLE, Nat.reduceSub, Nat.reduceMul, Nat.reduceEqDiff, hg2, hlk', hlv]
   refine hfin _ ?_
   rw [hLF, hML]
   simpa using h2
  | true =>
   rw [hb] at hlk' hML
   simp (disch := first | exact qDR | fail) only [qG5, Nat.reduceAdd, Nat.reduceLeDiff, Int.reduceToNat, Int.reduceAdd, Int.reduceSub, Int.reduceLT, Int.reduceLE, Nat.reduceSub, Nat.reduceMul, Nat.reduceEqDiff, hg2, hlk', hlv]
   refine markName_spec (by unfold in64; omega) fun w3 hx3 => ?_
   have hadd := addS (a := markF L.length) (b := [58]) (by simp; omega)
   simp (disch := first | exact qDR | fail) only [qG5, Nat.reduceAdd, Nat.reduceLeDiff, Int.reduceToNat, Int.reduceAdd, Int.reduceSub, Int.reduceLT, Int.reduceLE, Nat.reduceSub, Nat.reduceMul, Nat.reduceEqDiff, hadd]
   refine line_spec (h2.ext0 hx3) (by simp; omega) fun w4 h4 => ?_
   refine hfin _ ?_
   rw [hLF, hML]
   simpa using h4
open Go.Fx
set_option maxRecDepth 100000
def tmL (x : Ln) : List UInt8 × Bool := (x.t, x.m)
theorem count_same {st : List UInt8 -> List (List UInt8)} : ∀ (L M : List Ln) (p : Mk), L.map tmL = M.map tmL -> L.foldl (stepC st) p = M.foldl (stepC st) p
 | [], [], p, _ => rfl
 | [], y :: M, p, h => by simp at h
 | x :: L, [], p, h => by simp at h
 | x :: L, y :: M, p, h => by
  simp only [List.map_cons, List.cons.injEq, tmL, Prod.mk.injEq] at h
  rw [List.foldl_cons, List.foldl_cons]
  have e : stepC st p x = stepC st p y := by
   unfold stepC
   rw [h.1.1, h.1.2]
  rw [e]
  exact count_same L M _ h.2
theorem go_same {st : List UInt8 -> List (List UInt8)} {A T : List UInt8 -> Option Int} : ∀ (L M : List Ln) (met : List UInt8 -> Bool) (out r : List Nat), L.map tmL = M.map tmL -> asmGo st A T M met out = .ok r -> asmGo st A T L met out = .ok r
 | [], [], met, out, r, _, h => h
 | [], y :: M, _, _, _, h, _ => by simp at h
 | x :: L, [], _, _, _, h, _ => by simp at h
 | x :: L, y :: M, met, out, r, h, hr => by
  simp only [List.map_cons, List.cons.injEq, tmL, Prod.mk.injEq] at h
  rw [asmGo] at hr ⊢
  rw [h.1.1, h.1.2]
  cases hm : y.m with
  | true =>
   rw [hm, if_pos rfl] at hr
   rw [if_pos rfl]
   cases hmet : met y.t with
   | true => rw [hmet] at hr; simp at hr
   | false =>
    rw [hmet] at hr
    simp only [Bool.false_eq_true, if_false] at hr ⊢
    exact go_same L M _ _ _ h.2 hr
  | false =>
   rw [hm] at hr
   simp only [Bool.false_eq_true, if_false] at hr ⊢
   cases hi : innerF A T (st y.t) out with
   | none => rw [hi] at hr; simp at hr
   | some o =>
    rw [hi] at hr
    exact go_same L M _ _ _ h.2 hr
def joinN (l : List (List UInt8)) : List UInt8 := l.flatMap fun x => x ++ [10]
theorem joinN_app (a b : List (List UInt8)) : joinN (a ++ b) = joinN a ++ joinN b := by simp [joinN]
theorem split_joinN : ∀ (l : List (List UInt8)), (∀ x ∈ l, (10 : UInt8) ∉ x) -> Lib.split (joinN l) [10] = l ++ [[]]
 | [], _ => by
  show Lib.split [] [10] = [[]]
  exact split_none (c := 10) (t := []) (by simp)
 | x :: l, h => by
  have e : joinN (x :: l) = x ++ (10 :: [] ++ joinN l) := by simp [joinN]
  rw [e, split_at (h x (by simp)), split_joinN l fun y hy => h y (by simp [hy])]
  rfl
theorem lineF_n {k : Nat} {l : List UInt8} {x : Ln} (h : lineF k l = some x) : x.n = k := by
 unfold lineF at h
 dsimp only at h
 split at h
 ·cases h
 ·split at h
  ·cases h; rfl
  ·cases h; rfl
theorem linesFrom_n : ∀ (a : List (List UInt8)) (k : Nat) (x : Ln), x ∈ linesFrom k a -> k < x.n /\ x.n <= k + a.length
 | [], k, x, h => by simp [linesFrom] at h
 | l :: a, k, x, h => by
  rw [linesFrom, List.mem_append] at h
  rw [List.length_cons]
  rcases h with h | h
  ·rw [Option.mem_toList] at h
   have := lineF_n h
   omega
  ·have := linesFrom_n a (k + 1) x h
   omega
theorem inner_told {A T : List UInt8 -> Option Int} {i : IZ} {s : List UInt8} {out : List Nat} (hT : toldF A T s out.length = textF i) (h : encOk i = true) : innerF A T (selfL s) out = some (out ++ [encR i]) := by
 obtain ⟨x, hx, ha⟩ := parse_back h
 obtain ⟨e1, e2⟩ := agree_enc ha
 unfold selfL innerF
 rw [hT, hx]
 dsimp only
 rw [e1, h, e2]
 rfl
theorem occ_at {P Q : List UInt8} {c : UInt8} : Lib.occAt (P ++ (c :: Q)) [c] P.length = true := by
 unfold Lib.occAt
 rw [List.drop_left, List.isPrefixOf_cons_cons, beq_self_eq_true]
 rfl
theorem occ_mem {s : List UInt8} {c : UInt8} {i : Nat} (h : Lib.occAt s [c] i = true) : s[i]? = some c := by
 unfold Lib.occAt at h
 have h0 : s[i]? = (s.drop i)[0]? := by rw [List.getElem?_drop, Nat.add_zero]
 rw [h0]
 cases hd : s.drop i with
 | nil => rw [hd] at h; cases h
 | cons b t =>
  rw [hd, List.isPrefixOf_cons_cons, Bool.and_eq_true, beq_iff_eq] at h
  rw [<- h.1]
  rfl
theorem last_at {P Q : List UInt8} {c : UInt8} (h : c ∉ Q) : Lib.lastIndex (P ++ (c :: Q)) [c] = P.length := by
 unfold Lib.lastIndex
 rw [if_pos (by simp; omega)]
 have hl : (P ++ (c :: Q)).length - [c].length + 1 = P.length + Q.length + 1 := by simp <;> omega
 rw [hl]
 rcases Lib.lastOcc_spec (P ++ (c :: Q)) [c] (P.length + Q.length + 1) with ⟨-, hn⟩ | ⟨i, hi, e, ho, hn⟩
 ·exact absurd (occ_at (P := P) (Q := Q) (c := c)) (by rw [hn P.length (by omega)]; decide)
 ·rw [e]
  by_cases h1 : i = P.length
  ·rw [h1]
  ·by_cases h2 : i < P.length
   ·exact absurd (occ_at (P := P) (Q := Q) (c := c)) (by rw [hn P.length h2 (by omega)]; decide)
   ·exfalso
    have hm := occ_mem ho
    rw [List.getElem?_append_right (by omega)] at hm
    obtain ⟨d, hd⟩ : ∃ d, i - P.length = d + 1 := ⟨i - P.length - 1, by omega⟩
    rw [hd, List.getElem?_cons_succ] at hm
    exact h (List.mem_of_getElem? hm)
theorem mark_sign {n : Nat} : ∀ b ∈ markF n, b = 109 ∨ (48 <= b.toNat /\ b.toNat <= 57) := by
 intro b hb
 unfold markF at hb
 rw [List.mem_cons] at hb
 rcases hb with rfl | hb
 ·exact .inl rfl
 ·have h : dec (n : Int) = decN (n : Int).natAbs := by unfold dec; rw [if_neg (by omega)]
  rw [h] at hb
  exact .inr (of_decide_eq_true (List.all_eq_true.1 (decF_all 20 _) b hb))
theorem mark_no {n : Nat} {c : UInt8} (h : c ≠ 109) (h2 : ¬ (48 <= c.toNat /\ c.toNat <= 57)) : c ∉ markF n := by
 intro hm
 rcases mark_sign c hm with e | e
 ·exact h e
 ·exact h2 e
theorem mark_inj {a b : Nat} (ha : a <= 1000000) (hb : b <= 1000000) (h : markF a = markF b) : a = b := by
 have h1 := number_dec (n := (a : Int)) (by omega)
 have h2 := number_dec (n := (b : Int)) (by omega)
 unfold markF at h
 rw [(List.cons.inj h).2, h2] at h1
 have := congrArg Prod.fst h1
 simp only at this
 omega
theorem mark_named (n : Nat) : namedF (markF n) = true := by
 unfold namedF
 have h1 := markF_len n
 have h2 : headB (markF n) = true := rfl
 rw [h2, decide_eq_true (by omega), Bool.true_and, Bool.true_and, List.all_eq_true]
 intro b hb
 unfold chB
 rw [decide_eq_true_eq]
 rcases mark_sign b hb with rfl | h
 ·exact .inl (by decide)
 ·exact .inr (.inl h)
theorem mark_line (n k : Nat) : lineF k (markF n ++ [58]) = some ⟨k, markF n, true⟩ := by
 have ht : Lib.trimLeftB (markF n ++ [58]) 32 = markF n ++ [58] := by
  unfold markF
  exact trim_text (by decide)
 have hs : Lib.hasSuffix (markF n ++ [58]) [58] = true := by
  unfold Lib.hasSuffix
  rw [List.isSuffixOf_iff_suffix]
  exact List.suffix_append _ _
 have hu : Lib.trimSuffix (markF n ++ [58]) [58] = markF n := by
  unfold Lib.trimSuffix
  rw [hs, if_pos rfl]
  simp
 unfold lineF
 dsimp only
 rw [ht, hs, hu, mark_named, if_neg]
 ·rfl
 ·rintro (h | h)
  ·exact absurd h (by simp)
  ·exact absurd h (by
    unfold Lib.hasPrefix markF
    rw [List.cons_append, List.isPrefixOf_cons_cons]
    simp)
open Go.Fx
set_option maxRecDepth 100000
theorem dec_no {n : Int} {c : UInt8} (h : c ≠ 45) (h2 : ¬ (48 <= c.toNat /\ c.toNat <= 57)) : c ∉ dec n := by
 intro hm
 rcases dec_sign c hm with e | e
 ·exact h e
 ·exact h2 e
/-- a branch's text: its number is last. -/
theorem text_last {i : IZ} (h : encOk i = true) (hs : (rowZ i.op).s = 66 ∨ (rowZ i.op).s = 74) : ∃ R, textF i = (nameR i ++ 32 :: R) ++ (32 :: dec i.im) := by
 rcases hs with hs | hs
 ·have ho : orderS 66 = [97, 98, 109] := by decide
  refine ⟨partF i 97 ++ [44, 32] ++ partF i 98 ++ [44], ?_⟩
  unfold textF
  rw [h, if_pos rfl, hs, ho, if_neg (by simp)]
  have p3 : partF i 109 = dec i.im := rfl
  simp only [List.map_cons, List.map_nil, p3]
  simp [Lib.join_cons, Lib.joinTail]
 ·have ho : orderS 74 = [100, 109] := by decide
  refine ⟨partF i 100 ++ [44], ?_⟩
  unfold textF
  rw [h, if_pos rfl, hs, ho, if_neg (by simp)]
  have p3 : partF i 109 = dec i.im := rfl
  simp only [List.map_cons, List.map_nil, p3]
  simp [Lib.join_cons, Lib.joinTail]
/-- a text of an instruction's name and something. -/
theorem head_cut {i : IZ} (h : encOk i = true) (R X : List UInt8) : Lib.cut ((nameR i ++ 32 :: R) ++ (32 :: X)) [32] = (nameR i, R ++ 32 :: X, true) := by
 obtain ⟨ho, -⟩ := enc_ranges h
 have h32 : (32 : UInt8) ∉ nameR i := name_no ho (by decide)
 have e : (nameR i ++ 32 :: R) ++ (32 :: X) = nameR i ++ (32 :: [] ++ (R ++ 32 :: X)) := by simp
 rw [e, cut_at h32]
theorem head_shape {i : IZ} (h : encOk i = true) (R X : List UInt8) : toldSh ((nameR i ++ 32 :: R) ++ (32 :: X)) = (rowZ i.op).s := by
 obtain ⟨ho, -⟩ := enc_ranges h
 unfold toldSh parseOp
 rw [head_cut h, (name_ok ho).1]
theorem head_plain {i : IZ} (h : encOk i = true) (R X : List UInt8) : Plain ((nameR i ++ 32 :: R) ++ (32 :: X)) := by
 obtain ⟨ho, -⟩ := enc_ranges h
 obtain ⟨-, -, -, -, -, n6, n7, n8⟩ := name_ok ho
 have hc := head_cut h R X
 refine ⟨fun e => ?_, fun e => ?_, .inr ⟨?_, ?_, ?_⟩⟩
 ·rw [e] at hc
  exact absurd (congrArg (fun p => p.2.2) hc) (by simp only; decide)
 ·rw [e] at hc
  exact absurd (congrArg (fun p => p.2.2) hc) (by simp only; decide)
 ·rw [hc]; exact n6
 ·rw [hc]; exact n7
 ·rw [hc]; exact n8
theorem head_told {P X : List UInt8} (h : (32 : UInt8) ∉ X) : toldK (P ++ (32 :: X)) = P.length /\ (P ++ (32 :: X)).take (P.length + 1) = P ++ [32] /\ (P ++ (32 :: X)).drop (P.length + 1) = X := by
 refine ⟨last_at h, ?_, ?_⟩
 ·rw [show P ++ (32 :: X) = (P ++ [32]) ++ X by simp, List.take_left' (by simp)]
 ·rw [show P ++ (32 :: X) = (P ++ [32]) ++ X by simp, List.drop_left' (by simp)]
/-- a name turned into its number. -/
theorem told_mark {A T : List UInt8 -> Option Int} {i : IZ} {R : List UInt8} {n p : Nat} (h : encOk i = true) (hs : (rowZ i.op).s = 66 ∨ (rowZ i.op).s = 74) (ht : textF i = (nameR i ++ 32 :: R) ++ (32 :: dec i.im)) (hA : A (markF p) = some (p : Int)) (hT : T (markF p) = some 1) (hp : ((p : Int) - n) * 4 = i.im) :
  toldF A T ((nameR i ++ 32 :: R) ++ (32 :: markF p)) n = textF i := by
 obtain ⟨h1, h2, h3⟩ := head_told (P := nameR i ++ 32 :: R) (X := markF p) (mark_no (by decide) (by decide))
 have hsh := head_shape h R (markF p)
 unfold toldF
 rw [h1, hsh, if_neg (by omega)]
 have e : (((nameR i ++ 32 :: R).length : Int) + 1).toNat = (nameR i ++ 32 :: R).length + 1 := by omega
 rw [e, h2, h3, hA, hT, if_neg (by
  rintro (h | h)
  ·exact h rfl
  ·rcases hs with h' | h'
   ·exact h.1 h'
   ·exact h.2 h'), Option.getD_some, hp, ht]
 simp
/-- a text without a mark's name is told as it is. -/
theorem told_text {A T : List UInt8 -> Option Int} {i : IZ} {n : Int} (h : encOk i = true) (hT : ∀ x : List UInt8, x[0]? ≠ some 109 -> T x = none) : toldF A T (textF i) n = textF i := by
 by_cases hs : (rowZ i.op).s = 66 ∨ (rowZ i.op).s = 74
 ·obtain ⟨R, ht⟩ := text_last h hs
  obtain ⟨h1, h2, h3⟩ := head_told (P := nameR i ++ 32 :: R) (X := dec i.im) (dec_no (by decide) (by decide))
  have hd : (dec i.im)[0]? ≠ some 109 := by
   intro e
   exact dec_no (n := i.im) (c := 109) (by decide) (by decide) (List.mem_of_getElem? e)
  unfold toldF
  rw [ht, h1, if_neg (by omega)]
  have e : (((nameR i ++ 32 :: R).length : Int) + 1).toNat = (nameR i ++ 32 :: R).length + 1 := by omega
  rw [e, h3, hT _ hd, if_pos (.inl (by decide))]
 ·have hsh : toldSh (textF i) = (rowZ i.op).s := by
   unfold toldSh
   rw [(parse_parts h).1]
  unfold toldF
  rw [hsh]
  split
  ·rfl
  ·rw [if_pos (.inr (by omega))]
/-- where a word goes to. -/
theorem go_place {W k n : Nat} (hW : W < 4294967296) (h : (goF W k n).2 = true) : (dcdF W).2 = true /\ ∃ p : Nat, (goF W k n).1 = p /\ p <= n /\ ((rowZ (dcdF W).1.op).s = 66 ∨ (rowZ (dcdF W).1.op).s = 74) /\ ((p : Int) - k) * 4 = (dcdF W).1.im := by
 have hle := goF_le h
 unfold goF at *
 dsimp only at *
 rw [Bool.and_eq_true] at h
 refine ⟨h.1, ((targetF (dcdF W).1 k n).1).toNat, by omega, by omega, ?_⟩
 have h2 := h.2
 generalize (dcdF W).1 = i at *
 unfold targetF at *
 split at h2
 ·cases h2
 ·rename_i hc
  rw [if_neg hc] at hle ⊢
  dsimp only at *
  omega
/-- a word's line, where it goes to a mark. -/
theorem line_go {W k n : Nat} (hW : W < 4294967296) (h : (goF W k n).2 = true) : ∃ (R : List UInt8) (p : Nat), (goF W k n).1 = p /\ p <= n /\ ((rowZ (dcdF W).1.op).s = 66 ∨ (rowZ (dcdF W).1.op).s = 74) /\ ((p : Int) - k) * 4 = (dcdF W).1.im /\ textF (dcdF W).1 = (nameR (dcdF W).1 ++ 32 :: R) ++ (32 :: dec (dcdF W).1.im) /\ lineW W k n = (nameR (dcdF W).1 ++ 32 :: R) ++ (32 :: markF p) := by
 obtain ⟨hd, p, hp1, hp2, hs, hp3⟩ := go_place hW h
 obtain ⟨he, -⟩ := dcd_enc hW hd
 obtain ⟨R, ht⟩ := text_last he hs
 obtain ⟨h1, h2, h3⟩ := head_told (P := nameR (dcdF W).1 ++ 32 :: R) (X := dec (dcdF W).1.im) (dec_no (by decide) (by decide))
 refine ⟨R, p, hp1, hp2, hs, hp3, ht, ?_⟩
 have h1' : Lib.lastIndex ((nameR (dcdF W).1 ++ 32 :: R) ++ (32 :: dec (dcdF W).1.im)) [32] = ((nameR (dcdF W).1 ++ 32 :: R).length : Nat) := h1
 unfold lineW
 rw [hd, h, hp1, ht, h1', if_pos rfl, if_pos rfl]
 have e : (((nameR (dcdF W).1 ++ 32 :: R).length : Int) + 1).toNat = (nameR (dcdF W).1 ++ 32 :: R).length + 1 := by omega
 rw [e, h2]
 simp
theorem line_text {W k n : Nat} (hd : (dcdF W).2 = true) (h : (goF W k n).2 = false) : lineW W k n = textF (dcdF W).1 := by
 unfold lineW
 rw [hd, h, if_pos rfl, if_neg (by decide)]
theorem line_word {W k n : Nat} (hd : (dcdF W).2 = false) : lineW W k n = wordT ++ hexL 8 W := by
 unfold lineW
 rw [hd, if_neg (by decide)]
theorem hd_ne {d : Nat} (h : d < 16) : hd d ≠ 10 := sixteen (p := fun d => hd d ≠ 10) (by decide) h
theorem hexL_no (W : Nat) : ∀ j, (10 : UInt8) ∉ hexL j W
 | 0 => by simp [hexL]
 | j + 1 => by
  rw [hexL, List.mem_cons, not_or]
  exact ⟨fun e => hd_ne (Nat.mod_lt _ (by decide)) e.symm, hexL_no W j⟩
theorem head_line {i : IZ} (h : encOk i = true) {R X : List UInt8} (h58 : (58 : UInt8) ∉ (nameR i ++ 32 :: R) ++ (32 :: X)) (k : Nat) : lineF k ((nameR i ++ 32 :: R) ++ (32 :: X)) = some ⟨k, (nameR i ++ 32 :: R) ++ (32 :: X), false⟩ := by
 obtain ⟨ho, -⟩ := enc_ranges h
 obtain ⟨-, n2, n3, -⟩ := name_ok ho
 cases hn : nameR i with
 | nil => exact absurd hn n2
 | cons b t =>
  have hb := n3 b (by rw [hn]; simp)
  have hne : ∀ c : UInt8, ¬ (97 <= c.toNat /\ c.toNat <= 122) -> b ≠ c := fun c hc e => hc (e ▸ hb)
  rw [hn] at h58
  exact line_plain (trim_text (hne 32 (by decide))) (by simp) (by
   intro e
   exact hne 35 (by decide) (Option.some.inj e)) h58
theorem text_no {i : IZ} {c : UInt8} (h : ¬ ((97 <= c.toNat /\ c.toNat <= 122) ∨ c = 45 ∨ (48 <= c.toNat /\ c.toNat <= 57) ∨ c = 32 ∨ c = 44)) : c ∉ textF i := fun hm => h (text_sign hm)
/-- a word's line is one, plain. -/
theorem lineW_ok {W k n : Nat} (hW : W < 4294967296) : (10 : UInt8) ∉ lineW W k n /\ ((dcdF W).2 = true -> Plain (lineW W k n) /\ ∀ j, lineF j (lineW W k n) = some ⟨j, lineW W k n, false⟩) /\ ((dcdF W).2 = false -> ∀ j, lineF j (lineW W k n) = none) := by
 cases hd : (dcdF W).2 with
 | false =>
  rw [line_word hd]
  refine ⟨?_, nofun, fun _ j => ?_⟩
  ·rw [List.mem_append, not_or]
   exact ⟨by decide, hexL_no W 8⟩
  ·unfold lineF
   dsimp only
   have ht : Lib.trimLeftB (wordT ++ hexL 8 W) 32 = wordT ++ hexL 8 W := by
    show Lib.trimLeftB (35 :: ([32, 119, 111, 114, 100, 32] ++ hexL 8 W)) 32 = 35 :: ([32, 119, 111, 114, 100, 32] ++ hexL 8 W)
    exact trim_text (by decide)
   rw [ht, if_pos]
   refine .inr ?_
   unfold Lib.hasPrefix wordT
   rw [List.cons_append, List.isPrefixOf_cons_cons, beq_self_eq_true]
   rfl
 | true =>
  obtain ⟨he, -⟩ := dcd_enc hW hd
  cases hg : (goF W k n).2 with
  | false =>
   rw [line_text hd hg]
   exact ⟨text_no (by decide), fun _ => ⟨text_plain he, fun j => (text_line he j).2⟩, nofun⟩
  | true =>
   obtain ⟨R, p, -, -, -, -, ht, hl⟩ := line_go hW hg
   have hno : ∀ c : UInt8, c ≠ 109 -> ¬ (48 <= c.toNat /\ c.toNat <= 57) -> c ∉ textF (dcdF W).1 -> c ≠ 32 -> c ∉ (nameR (dcdF W).1 ++ 32 :: R) ++ (32 :: markF p) := by
    intro c h1 h2 h3 h4 hm
    rw [ht] at h3
    rw [List.mem_append, List.mem_cons] at hm
    rcases hm with hm | hm | hm
    ·exact h3 (List.mem_append_left _ hm)
    ·exact h4 hm
    ·exact mark_no h1 h2 hm
   rw [hl]
   exact ⟨hno 10 (by decide) (by decide) (text_no (by decide)) (by decide), fun _ => ⟨head_plain he R _, fun j => head_line he (hno 58 (by decide) (by decide) (text_no (by decide)) (by decide)) j⟩, nofun⟩
end Go.Proofs.YtobkjnmdbkieeaaGreatDoor
