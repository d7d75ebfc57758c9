/- A number that is stored is loaded, whole and byte by byte: the walk; conditions: those of each theorem. -/
import Derived.Test.YtlklhempbpphhaaRam
namespace Go.Proofs.Ytlklhempbpphhaa
open Go.Fx
set_option maxRecDepth 100000
set_option linter.unusedSimpArgs false
set_option linter.unusedVariables false
theorem leN_stored (m : Nat → Int) (a s : Nat) (v : Int) : ∀ k, k ≤ s → leN (stored m a s v) a k = v.toNat % 2 ^ (8 * k)
  | 0, _ => by simp [leN, Nat.mod_one]
  | k + 1, h => by
    have ih := leN_stored m a s v k (by omega)
    have hb : stored m a s v (a + k) = ((v.toNat / 2 ^ (8 * k) % 256 : Nat) : Int) := by
      unfold stored
      rw [if_pos (by omega), show a + k - a = k by omega]
    unfold leN
    rw [ih, hb, Int.toNat_natCast]
    have h4 : (2 : Nat) ^ (8 * (k + 1)) = 2 ^ (8 * k) * 256 := by rw [show 8 * (k + 1) = 8 * k + 8 by omega, Nat.pow_add]
    rw [h4, Nat.mod_mul]
    congr 1
    rw [Nat.mul_comm]
theorem leN_one (m : Nat → Int) (a : Nat) : leN m a 1 = (m a).toNat := by simp [leN]
theorem numbers_spec {w : World} {at0 v size : Int} (hv : 0 ≤ v ∧ v < 18446744073709551616) {K : Value → World → Prop} (hK : ∀ w', Ext [] w w' → K (.bool true) w') : callsK Try.prog 8 #[.int .i64 at0, .int .u64 v, .int .i64 size] w K := by
  apply F8_ok
  unfold F8
  simp (disch := first | assumption | omega | (simp only [szR, tgC_len, tgC_all] <;> omega) | rfl | decide) only [gen0, gen1, gen2, rulesM, litR, bolR, Nat.reduceAdd, Nat.reduceLeDiff, numR, memR, valR, heapR, updR, intR, decR, extR, slR, segR, thenR, pnR, Int.reduceToNat, Int.reduceAdd, Int.reduceSub, Int.reduceLT, Int.reduceLE, Nat.reduceSub, Nat.reduceMul, Nat.reduceEqDiff]
  refine New_spec (n := 2) (by omega) fun w1 hm1 hx1 => ?_
  have hmask : bitI .and .i64 size 3 = size % 4 := and_mask (k := .i64) (n := 2) (by decide)
  have hmask2 : bitI .and .i64 at0 8191 = at0 % 8192 := and_mask (k := .i64) (n := 13) (by decide)
  obtain ⟨n, hn, hsz⟩ : ∃ n : Nat, IntKind.i64.wrap (1 * 2 ^ (size % 4).toNat) = n ∧ Size n := by
    have : size % 4 = 0 ∨ size % 4 = 1 ∨ size % 4 = 2 ∨ size % 4 = 3 := by omega
    rcases this with h | h | h | h <;> rw [h]
    · exact ⟨1, by decide, .inl rfl⟩
    · exact ⟨2, by decide, .inr (.inl rfl)⟩
    · exact ⟨4, by decide, .inr (.inr (.inl rfl))⟩
    · exact ⟨8, by decide, .inr (.inr (.inr rfl))⟩
  have hn8 : 1 ≤ n ∧ n ≤ 8 := by rcases hsz with h | h | h | h <;> omega
  obtain ⟨D, hD, E, hE, hE2, hE3⟩ : ∃ D : Nat, IntKind.u64.wrap ((8 + at0 % 8192) / n) = D ∧ ∃ E : Nat, IntKind.u64.wrap ((D : Int) * n) = E ∧ E ≤ 8199 ∧ E % n = 0 := by
    refine ⟨((8 + at0 % 8192) / n).toNat, ?_, ((8 + at0 % 8192) / n).toNat * n, ?_⟩
    · rcases hsz with h | h | h | h <;> subst h <;> rw [wrap_u64 (by omega)] <;> omega
    · refine ⟨?_, ?_, Nat.mul_mod_left _ _⟩ <;> rcases hsz with h | h | h | h <;> subst h
      all_goals first | omega | (rw [wrap_u64 (by omega)]; omega)
  simp (disch := first | assumption | omega | (simp only [szR, tgC_len, tgC_all] <;> omega) | rfl | decide) only [gen0, gen1, gen2, rulesM, litR, bolR, Nat.reduceAdd, Nat.reduceLeDiff, numR, memR, valR, heapR, updR, intR, decR, extR, slR, segR, thenR, pnR, Int.reduceToNat, Int.reduceAdd, Int.reduceSub, Int.reduceLT, Int.reduceLE, Nat.reduceSub, Nat.reduceMul, Nat.reduceEqDiff, joinBR, hmask, hmask2, hn, hD, hE, Option.isNone_some]
  refine joinL.intro fun J1 hJ1 => ?_
  have hrest : ∀ P : Nat, 8 ≤ P → P + n ≤ 8184 → P % n = 0 → J1 [.int .u64 P] w1 := by
    intro P h1 h2 h3
    apply hJ1
    intro _
    have e1 : (P : Int) - 1 = ((P - 1 : Nat) : Int) := by omega
    have e2 : (P : Int) + n = ((P + n : Nat) : Int) := by omega
    clear hJ1
    simp (disch := first | assumption | omega | (simp only [szR, tgC_len, tgC_all] <;> omega) | rfl | decide) only [gen0, gen1, gen2, rulesM, litR, bolR, Nat.reduceAdd, Nat.reduceLeDiff, numR, memR, valR, heapR, updR, intR, decR, extR, slR, segR, thenR, pnR, Int.reduceToNat, Int.reduceAdd, Int.reduceSub, Int.reduceLT, Int.reduceLE, Nat.reduceSub, Nat.reduceMul, Nat.reduceEqDiff, e1, e2]
    refine Store_spec (s := 1) (v := 90) hm1 (by omega) (by omega) (.inl rfl) (by omega) (by omega) fun g2 w2 hm2 _ hx2 => ?_
    simp (disch := first | assumption | omega | (simp only [szR, tgC_len, tgC_all] <;> omega) | rfl | decide) only [gen0, gen1, gen2, rulesM, litR, bolR, Nat.reduceAdd, Nat.reduceLeDiff, numR, memR, valR, heapR, updR, intR, decR, extR, slR, segR, thenR, pnR, Int.reduceToNat, Int.reduceAdd, Int.reduceSub, Int.reduceLT, Int.reduceLE, Nat.reduceSub, Nat.reduceMul, Nat.reduceEqDiff]
    refine Store_spec (s := 1) (v := 165) hm2 (by omega) (by omega) (.inl rfl) (by omega) (by omega) fun g3 w3 hm3 _ hx3 => ?_
    simp (disch := first | assumption | omega | (simp only [szR, tgC_len, tgC_all] <;> omega) | rfl | decide) only [gen0, gen1, gen2, rulesM, litR, bolR, Nat.reduceAdd, Nat.reduceLeDiff, numR, memR, valR, heapR, updR, intR, decR, extR, slR, segR, thenR, pnR, Int.reduceToNat, Int.reduceAdd, Int.reduceSub, Int.reduceLT, Int.reduceLE, Nat.reduceSub, Nat.reduceMul, Nat.reduceEqDiff]
    refine Store_spec hm3 (by omega) (by omega) hsz h3 hv fun g4 w4 hm4 _ hx4 => ?_
    have hxw : Ext [] w w4 := ((hx1.trans hx2 (by simp)).trans hx3 (by simp)).trans hx4 (by simp)
    have hlow : stored (stored (stored (fun _ => 0) (P - 1) 1 90) (P + n) 1 165) P n v (P - 1) = 90 := by
      unfold stored
      rw [if_neg (by omega), if_neg (by omega), if_pos (by omega)]
      simp
    have hhigh : stored (stored (stored (fun _ => 0) (P - 1) 1 90) (P + n) 1 165) P n v (P + n) = 165 := by
      unfold stored
      rw [if_neg (by omega), if_pos (by omega)]
      simp
    have hle := leN_stored (stored (stored (fun _ => 0) (P - 1) 1 90) (P + n) 1 165) P n v n (Nat.le_refl _)
    have hat : ∀ i, i < n → stored (stored (stored (fun _ => 0) (P - 1) 1 90) (P + n) 1 165) P n v (P + i) = ((v.toNat / 2 ^ (8 * i) % 256 : Nat) : Int) := by
      intro i hi
      unfold stored
      rw [if_pos (by omega), show P + i - P = i by omega]
    generalize stored (stored (stored (fun _ => 0) (P - 1) 1 90) (P + n) 1 165) P n v = mm at hm4 hlow hhigh hle hat
    clear hm3 hm2 hm1
    simp (disch := first | assumption | omega | (simp only [szR, tgC_len, tgC_all] <;> omega) | rfl | decide) only [gen0, gen1, gen2, rulesM, litR, bolR, Nat.reduceAdd, Nat.reduceLeDiff, numR, memR, valR, heapR, updR, intR, decR, extR, slR, segR, thenR, pnR, Int.reduceToNat, Int.reduceAdd, Int.reduceSub, Int.reduceLT, Int.reduceLE, Nat.reduceSub, Nat.reduceMul, Nat.reduceEqDiff]
    refine Load_spec hm4 (by omega) (by omega) hsz h3 fun w5 hx5 => ?_
    have hm5 := hm4.ext hx5 (by simp) (by simp)
    simp (disch := first | assumption | omega | (simp only [szR, tgC_len, tgC_all] <;> omega) | rfl | decide) only [gen0, gen1, gen2, rulesM, litR, bolR, Nat.reduceAdd, Nat.reduceLeDiff, numR, memR, valR, heapR, updR, intR, decR, extR, slR, segR, thenR, pnR, Int.reduceToNat, Int.reduceAdd, Int.reduceSub, Int.reduceLT, Int.reduceLE, Nat.reduceSub, Nat.reduceMul, Nat.reduceEqDiff]
    refine Load_spec (s := 1) hm5 (by omega) (by omega) (.inl rfl) (by omega) fun w6 hx6 => ?_
    have hm6 := hm5.ext hx6 (by simp) (by simp)
    rw [leN_one, hlow, hle]
    simp (disch := first | assumption | omega | (simp only [szR, tgC_len, tgC_all] <;> omega) | rfl | decide) only [gen0, gen1, gen2, rulesM, litR, bolR, Nat.reduceAdd, Nat.reduceLeDiff, numR, memR, valR, heapR, updR, intR, decR, extR, slR, segR, thenR, pnR, Int.reduceToNat, Int.reduceAdd, Int.reduceSub, Int.reduceLT, Int.reduceLE, Nat.reduceSub, Nat.reduceMul, Nat.reduceEqDiff]
    refine Load_spec (s := 1) hm6 (by omega) (by omega) (.inl rfl) (by omega) fun w7 hx7 => ?_
    have hm7 := hm6.ext hx7 (by simp) (by simp)
    rw [leN_one, hhigh]
    have hx17 := ((hxw.trans hx5 (by simp)).trans hx6 (by simp)).trans hx7 (by simp)
    simp (disch := first | assumption | omega | (simp only [szR, tgC_len, tgC_all] <;> omega) | rfl | decide) only [gen0, gen1, gen2, rulesM, litR, bolR, Nat.reduceAdd, Nat.reduceLeDiff, numR, memR, valR, heapR, updR, intR, decR, extR, slR, segR, thenR, pnR, Int.reduceToNat, Int.reduceAdd, Int.reduceSub, Int.reduceLT, Int.reduceLE, Nat.reduceSub, Nat.reduceMul, Nat.reduceEqDiff]
    refine loopT.intro (fun st w' => ∃ (k : Nat) (z : Int), k ≤ n ∧ st = [.int .i64 z] ∧ z = k ∧ Ext [] w7 w')
      (fun st _ => match st with
        | [.int _ z] => n - z.toNat
        | _ => 0) ⟨0, 0, by omega, rfl, rfl, Ext.refl⟩ ?_
    rintro st w' ⟨k, z, hk, rfl, rfl, hx8⟩ _
    by_cases hkn : k < n
    · have e3 : (P : Int) + k = ((P + k : Nat) : Int) := by omega
      simp (disch := first | assumption | omega | (simp only [szR, tgC_len, tgC_all] <;> omega) | rfl | decide) only [gen0, gen1, gen2, rulesM, litR, bolR, Nat.reduceAdd, Nat.reduceLeDiff, numR, memR, valR, heapR, updR, intR, decR, extR, slR, segR, thenR, pnR, Int.reduceToNat, Int.reduceAdd, Int.reduceSub, Int.reduceLT, Int.reduceLE, Nat.reduceSub, Nat.reduceMul, Nat.reduceEqDiff, e3]
      refine Load_spec (s := 1) (hm7.ext hx8 (by simp) (by simp)) (by omega) (by omega) (.inl rfl) (by omega) fun w9 hx9 => ?_
      rw [leN_one, hat k hkn]
      have he : (8 * (k : Int)).toNat = 8 * k := by omega
      have hfd := fdiv_pow hv.1 (8 * k)
      have hq : v.toNat / 2 ^ (8 * k) < 18446744073709551616 := Nat.lt_of_le_of_lt (Nat.div_le_self _ _) (by omega)
      generalize v.toNat / 2 ^ (8 * k) = q at hfd hq
      have hand := and_u64 (a := (q : Int)) (b := 255) (by omega) (by omega)
      have hand2 : q &&& (255 : Int).toNat = q % 256 := Nat.and_two_pow_sub_one_eq_mod q 8
      simp only [Int.toNat_natCast, hand2] at hand
      simp (disch := first | assumption | omega | (simp only [szR, tgC_len, tgC_all] <;> omega) | rfl | decide) only [gen0, gen1, gen2, rulesM, litR, bolR, Nat.reduceAdd, Nat.reduceLeDiff, numR, memR, valR, heapR, updR, intR, decR, extR, slR, segR, thenR, pnR, Int.reduceToNat, Int.reduceAdd, Int.reduceSub, Int.reduceLT, Int.reduceLE, Nat.reduceSub, Nat.reduceMul, Nat.reduceEqDiff, he, hfd, hand, Int.toNat_natCast]
      exact ⟨⟨k + 1, (k : Int) + 1, by omega, rfl, by omega, hx8.trans hx9 (by simp)⟩, by first | omega | (simp <;> omega)⟩
    · have hfin := hK _ (hx17.trans hx8 (by simp))
      by_cases h8 : n = 8
      · subst h8
        have hmod : v.toNat % 2 ^ (8 * 8) = v.toNat := Nat.mod_eq_of_lt (by simp; omega)
        have hvv : ((v.toNat : Nat) : Int) = v := by omega
        simp (disch := first | assumption | omega | (simp only [szR, tgC_len, tgC_all] <;> omega) | rfl | decide) only [gen0, gen1, gen2, rulesM, litR, bolR, Nat.reduceAdd, Nat.reduceLeDiff, numR, memR, valR, heapR, updR, intR, decR, extR, slR, segR, thenR, pnR, Int.reduceToNat, Int.reduceAdd, Int.reduceSub, Int.reduceLT, Int.reduceLE, Nat.reduceSub, Nat.reduceMul, Nat.reduceEqDiff, joinBR, hmod, hvv]
        exact hfin
      · have h7 : n < 8 := by omega
        have he : (8 * (n : Int)).toNat = 8 * n := by omega
        have hpl : (2 : Nat) ^ (8 * n) < 18446744073709551616 := Nat.pow_lt_pow_right (a := 2) (by omega) (show 8 * n < 64 by omega)
        have hpp := Nat.two_pow_pos (8 * n)
        have hsh : IntKind.u64.wrap (1 * 2 ^ (8 * n)) = ((2 ^ (8 * n) : Nat) : Int) := by
          have e : (1 : Int) * 2 ^ (8 * n) = ((2 ^ (8 * n) : Nat) : Int) := by simp
          rw [e]
          generalize (2 : Nat) ^ (8 * n) = p at hpl
          exact wrap_u64 (by omega)
        have hmod := Nat.and_two_pow_sub_one_eq_mod v.toNat (8 * n)
        generalize hp : (2 : Nat) ^ (8 * n) = p at hsh hmod hpl hpp
        have hand := and_u64 (a := v) (b := ((p - 1 : Nat) : Int)) hv (by omega)
        simp only [Int.toNat_natCast, hmod] at hand
        have e4 : (p : Int) - 1 = ((p - 1 : Nat) : Int) := by omega
        simp (disch := first | assumption | omega | (simp only [szR, tgC_len, tgC_all] <;> omega) | rfl | decide) only [gen0, gen1, gen2, rulesM, litR, bolR, Nat.reduceAdd, Nat.reduceLeDiff, numR, memR, valR, heapR, updR, intR, decR, extR, slR, segR, thenR, pnR, Int.reduceToNat, Int.reduceAdd, Int.reduceSub, Int.reduceLT, Int.reduceLE, Nat.reduceSub, Nat.reduceMul, Nat.reduceEqDiff, joinBR, he, hsh, e4, hand, Int.toNat_natCast]
        exact hfin
  have hE4 : E % 8184 < 8184 := Nat.mod_lt _ (by omega)
  have hE5 : E % 8184 % n = 0 := by rcases hsz with h | h | h | h <;> subst h <;> omega
  by_cases hlow : E % 8184 < 8
  · simp (disch := first | assumption | omega | (simp only [szR, tgC_len, tgC_all] <;> omega) | rfl | decide) only [gen0, gen1, gen2, rulesM, litR, bolR, Nat.reduceAdd, Nat.reduceLeDiff, numR, memR, valR, heapR, updR, intR, decR, extR, slR, segR, thenR, pnR, Int.reduceToNat, Int.reduceAdd, Int.reduceSub, Int.reduceLT, Int.reduceLE, Nat.reduceSub, Nat.reduceMul, Nat.reduceEqDiff]
    exact hrest 8 (by omega) (by omega) (by rcases hsz with h | h | h | h <;> subst h <;> rfl)
  · simp (disch := first | assumption | omega | (simp only [szR, tgC_len, tgC_all] <;> omega) | rfl | decide) only [gen0, gen1, gen2, rulesM, litR, bolR, Nat.reduceAdd, Nat.reduceLeDiff, numR, memR, valR, heapR, updR, intR, decR, extR, slR, segR, thenR, pnR, Int.reduceToNat, Int.reduceAdd, Int.reduceSub, Int.reduceLT, Int.reduceLE, Nat.reduceSub, Nat.reduceMul, Nat.reduceEqDiff]
    have e5 : (E : Int) % 8184 = ((E % 8184 : Nat) : Int) := by omega
    rw [e5]
    exact hrest (E % 8184) (by omega) (by rcases hsz with h | h | h | h <;> subst h <;> omega) hE5
theorem numbers_law {w : World} {at0 v size : Int} (hv : (Lit.int .u64 v).wf = true) {K : Value → World → Prop} (hK : ∀ w', Ext [] w w' → K (.bool true) w') : callsK Try.prog 8 #[.int .i64 at0, .int .u64 v, .int .i64 size] w K := by
  have : 0 ≤ v ∧ v ≤ 18446744073709551615 := by simpa [Lit.wf, IntKind.min, IntKind.max, IntKind.signed, IntKind.bits] using hv
  exact numbers_spec (by omega) hK
end Go.Proofs.Ytlklhempbpphhaa
