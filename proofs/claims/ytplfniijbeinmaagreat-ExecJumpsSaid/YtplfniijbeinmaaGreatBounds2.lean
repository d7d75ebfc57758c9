/- The span of fields beside an address: both texts; conditions: those of each theorem. -/
import Derived.Test.YtplfniijbeinmaaGreatBounds
namespace Go.Proofs.YtplfniijbeinmaaGreat
open Go.Fx
set_option maxRecDepth 100000
set_option linter.unusedSimpArgs false
set_option linter.unusedVariables false
theorem pN_pickE {P : Program} {c : Bool} {a b : Value} {K : Value → Prop} : pN P (pickN (.bool c) a b) K = K (if c then a else b) := by
  apply propext
  constructor
  · rintro ⟨v, h, hk⟩
    have h1 := h default
    have h2 : (pickN (.bool c) a b).run P default = .ok (.value (if c then a else b)) default := by cases c <;> rfl
    have h3 := h1.symm.trans h2
    have h4 : v = if c then a else b := by
      injection h3 with h4
      injection h4
    exact h4 ▸ hk
  · exact pN_pick
theorem gdPR : (∀ (A : (Value → Prop) → Prop) (K : Value → Prop), gdP (yb (.bool true)) true A K = A K) ∧ (∀ (A : (Value → Prop) → Prop) (K : Value → Prop), gdP (yb (.bool false)) false A K = A K) ∧ (∀ (A : (Value → Prop) → Prop) (K : Value → Prop), gdP (yb (.bool false)) true A K = K undef) ∧
    (∀ (A : (Value → Prop) → Prop) (K : Value → Prop), gdP (yb (.bool true)) false A K = K undef) ∧ (∀ (want : Bool) (A : (Value → Prop) → Prop) (K : Value → Prop), gdP (yb undef) want A K = K undef) :=
  ⟨fun _ _ => gdP_yes, fun _ _ => gdP_yes, fun _ _ => gdP_no1, fun _ _ => gdP_no2, fun _ _ _ => by simp [gdP, yb, undef]⟩
theorem wordF_val {B T E : Nat} (hB : B < 16384) (hT : T < 4096) (hE : E < 64) : wordF B T E 3 = B + T * 16384 + E * 67108864 := by
  show 0 + B % 2 ^ 14 * 2 ^ 0 + T % 2 ^ 12 * 2 ^ 14 + E % 2 ^ 6 * 2 ^ 26 = _
  rw [Nat.mod_eq_of_lt (show B < 2 ^ 14 by simpa using hB), Nat.mod_eq_of_lt (show T < 2 ^ 12 by simpa using hT), Nat.mod_eq_of_lt (show E < 2 ^ 6 by simpa using hE)]
  simp
theorem neqF134 (B T E : Nat) (x y : Operand) (w : World) : (binV .neq 69 x y (.agg (fdsC B T E).toArray) (.agg (fdsC B T E).toArray)).run Tryz.prog w = .ok (.bool false) w := by
  have := RC_neq_69 B B T T E E x y w
  simpa [fdsC] using this
theorem fdsC_at (B T E : Nat) : (fdsC B T E)[0]? = some (.int .u64 B) ∧ (fdsC B T E)[1]? = some (.int .u64 T) ∧ (fdsC B T E)[2]? = some (.int .u64 E) := ⟨rfl, rfl, rfl⟩
theorem fdsC_zero : [.int .u64 0, .int .u64 0, .int .u64 0] = fdsC 0 0 0 := rfl
theorem spC_none : spC none = [.int .u64 0, .int .u64 0] := rfl
theorem or_half {n : Nat} (h : n < 4096) : bitI .or .u64 (n : Int) 4096 = ((n + 4096 : Nat) : Int) := by
  have := or_u64 (a := (n : Int)) (b := 4096) (by omega) (by omega)
  have e : n ||| 4096 = n + 4096 := by
    have := Nat.two_pow_add_eq_or_of_lt (i := 12) (b := n) (by simpa using h) 1
    rw [Nat.or_comm]
    simp at this
    omega
  rw [this]
  simp [e]
theorem wrapMod (z : Int) : IntKind.u64.wrap z = z % 18446744073709551616 := by
  simp only [IntKind.wrap, IntKind.signed, IntKind.bits]
  simp
theorem mask12 (z : Int) : bitI .and .u64 z 4095 = z % 4096 := and_mask (k := .u64) (n := 12) (by decide)
theorem mask14 (z : Int) : bitI .and .u64 z 16383 = z % 16384 := and_mask (k := .u64) (n := 14) (by decide)
theorem subMask12 {x y : Nat} (hx : x < 18446744073709551616) (hy : y ≤ 16384) : bitI .and .u64 (IntKind.u64.wrap ((x : Int) - y)) 4095 = (((x + 16384 - y) % 4096 : Nat) : Int) := by
  rw [mask12, wrapMod]
  omega
theorem subMask14 {x y : Nat} (hx : x < 18446744073709551616) (hy : y ≤ 16384) : bitI .and .u64 (IntKind.u64.wrap (IntKind.u64.wrap ((x : Int) - y) + 4096)) 16383 = (((x + 16384 - y + 4096) % 16384 : Nat) : Int) := by
  rw [mask14, wrapMod, wrapMod]
  omega
theorem Decode_spec {w : World} {B T E a : Nat} (hB : B < 16384) (hT : T < 4096) (hE : E < 64) (ha : a < 18446744073709551616) {K : Value → World → Prop} (hK : ∀ w', Ext [] w w' → K (.tuple #[.agg (spC (spn B T E a)).toArray, .bool (spn B T E a).isSome]) w') :
    callsK Tryz.prog 19 #[.agg (fdsC B T E).toArray, .int .u64 a] w K := by
  have hwv := wordF_val hB hT hE
  apply F19_ok
  unfold F19
  simp (disch := first | assumption | omega | (simp only [szR, fdsC_len, fdsC_all, wdsC_len, wdsC_all] <;> omega) | rfl | decide) only [gen0, gen1, gen2, rulesC, litR, bolR, Nat.reduceAdd, Nat.reduceLeDiff, numR, memR, valR, heapR, updR, intR, decR, extR, slR, segR, thenR, pnR, Int.reduceToNat, Int.reduceAdd, Int.reduceSub, Int.reduceLT, Int.reduceLE, Nat.reduceSub, Nat.reduceMul, Nat.reduceEqDiff]
  refine joinL.intro fun J0 hJ0 => ?_
  have hb : ∀ w1 b, b = decide (37 < E ∨ 281474976710656 ≤ a) → w1.heap[w.heap.size]? = some (.cells (fdsC B T E).toArray 69 (0, 0)) → w1.heap[w.heap.size + 1]? = some (.cells [.int .u64 0, .int .u64 0].toArray 26 (0, 0)) → Ext [] w w1 → J0 [.bool b] w1 := by
    rintro w1 b hb c2 c4 hx1
    have l4 := lt_of_at c4
    apply hJ0
    intro _
    by_cases h37 : 37 < E ∨ 281474976710656 ≤ a
    · have e : spn B T E a = none := by unfold spn; rw [if_pos h37]
      rw [decide_eq_true h37] at hb
      subst hb
      rw [e] at hK
      simp only [spC_none] at hK
      simp (disch := first | assumption | omega | (simp only [szR, fdsC_len, fdsC_all, wdsC_len, wdsC_all] <;> omega) | rfl | decide) only [gen0, gen1, gen2, rulesC, litR, bolR, Nat.reduceAdd, Nat.reduceLeDiff, numR, memR, valR, heapR, updR, intR, decR, extR, slR, segR, thenR, pnR, Int.reduceToNat, Int.reduceAdd, Int.reduceSub, Int.reduceLT, Int.reduceLE, Nat.reduceSub, Nat.reduceMul, Nat.reduceEqDiff, c4]
      exact hK _ (by (repeat first | assumption | exact Ext.refl | apply Ext.alloc | apply Ext.drew | (refine Ext.updN ?_ ?_; (focus first | omega | (simp only [szR] <;> omega))) | (refine Ext.updI ?_ ?_; (focus (simp; done)))))
    · rw [decide_eq_false h37] at hb
      subst hb
      have hn := subMask12 (x := T) (y := B) (by omega) (by omega)
      have hfd := fdivP (v := a) (E - 1)
      have hfq : (281474976710656 : Int).fdiv (2 ^ (E - 1)) = ((281474976710656 / 2 ^ (E - 1) : Nat) : Int) := fdivP (v := 281474976710656) (E - 1)
      have hqm := Nat.div_mul_le_self 281474976710656 (2 ^ (E - 1))
      have hm1 := fun v => mulP (v := v) (E - 1)
      have hle := Nat.div_le_self a (2 ^ (E - 1))
      have hq1 := Nat.div_le_self 281474976710656 (2 ^ (E - 1))
      have hnl : (T + 16384 - B) % 4096 < 4096 := Nat.mod_lt _ (by decide)
      have hspn : spn B T E a = if a / 2 ^ (E - 1) + 4096 < (a / 2 ^ (E - 1) + 16384 - B + 4096) % 16384 then none
  else if 281474976710656 / 2 ^ (E - 1) < a / 2 ^ (E - 1) + 4096 - (a / 2 ^ (E - 1) + 16384 - B + 4096) % 16384 + ((T + 16384 - B) % 4096 + if 0 < E then 4096 else 0) then none
  else some ((a / 2 ^ (E - 1) + 4096 - (a / 2 ^ (E - 1) + 16384 - B + 4096) % 16384) * 2 ^ (E - 1), (a / 2 ^ (E - 1) + 4096 - (a / 2 ^ (E - 1) + 16384 - B + 4096) % 16384 + ((T + 16384 - B) % 4096 + if 0 < E then 4096 else 0)) * 2 ^ (E - 1)) := by
        unfold spn
        rw [if_neg h37]
      rw [hspn] at hK
      clear hspn
      simp (disch := first | assumption | omega | (simp only [szR, fdsC_len, fdsC_all, wdsC_len, wdsC_all] <;> omega) | rfl | decide) only [gen0, gen1, gen2, rulesC, litR, bolR, Nat.reduceAdd, Nat.reduceLeDiff, numR, memR, valR, heapR, updR, intR, decR, extR, slR, segR, thenR, pnR, Int.reduceToNat, Int.reduceAdd, Int.reduceSub, Int.reduceLT, Int.reduceLE, Nat.reduceSub, Nat.reduceMul, Nat.reduceEqDiff, c2, fdsC_at]
      refine shift_spec hE ?_
      simp (disch := first | assumption | omega | (simp only [szR, fdsC_len, fdsC_all, wdsC_len, wdsC_all] <;> omega) | rfl | decide) only [gen0, gen1, gen2, rulesC, litR, bolR, Nat.reduceAdd, Nat.reduceLeDiff, numR, memR, valR, heapR, updR, intR, decR, extR, slR, segR, thenR, pnR, Int.reduceToNat, Int.reduceAdd, Int.reduceSub, Int.reduceLT, Int.reduceLE, Nat.reduceSub, Nat.reduceMul, Nat.reduceEqDiff, c2, fdsC_at, hn]
      refine joinL.intro fun J3 hJ3 => ?_
      have h3 : ∀ n : Nat, n = (T + 16384 - B) % 4096 + (if 0 < E then 4096 else 0) → J3 [.int .u64 (n : Int)] w1 := by
        intro n hn'
        rw [← hn'] at hK
        have hn8 : n < 8192 := by rw [hn']; split <;> omega
        clear hn'
        apply hJ3
        intro _
        have hd := subMask14 (x := a / 2 ^ (E - 1)) (y := B) (by omega) (by omega)
        have hd14 : (a / 2 ^ (E - 1) + 16384 - B + 4096) % 16384 < 16384 := Nat.mod_lt _ (by decide)
        generalize 2 ^ (E - 1) = p at *
        generalize a / p = at0 at *
        generalize 281474976710656 / p = qq at *
        generalize (at0 + 16384 - B + 4096) % 16384 = d at *
        by_cases hlt : at0 + 4096 < d
        · rw [if_pos hlt] at hK
          simp only [spC_none] at hK
          simp (disch := first | assumption | omega | (simp only [szR, fdsC_len, fdsC_all, wdsC_len, wdsC_all] <;> omega) | rfl | decide) only [gen0, gen1, gen2, rulesC, litR, bolR, Nat.reduceAdd, Nat.reduceLeDiff, numR, memR, valR, heapR, updR, intR, decR, extR, slR, segR, thenR, pnR, Int.reduceToNat, Int.reduceAdd, Int.reduceSub, Int.reduceLT, Int.reduceLE, Nat.reduceSub, Nat.reduceMul, Nat.reduceEqDiff, c2, c4, fdsC_at, hfd, hd]
          exact hK _ (by (repeat first | assumption | exact Ext.refl | apply Ext.alloc | apply Ext.drew | (refine Ext.updN ?_ ?_; (focus first | omega | (simp only [szR] <;> omega))) | (refine Ext.updI ?_ ?_; (focus (simp; done)))))
        · rw [if_neg hlt] at hK
          have e57 : (at0 : Int) + 4096 - (d : Int) = ((at0 + 4096 - d : Nat) : Int) := by omega
          by_cases hq2 : qq < at0 + 4096 - d + n
          · rw [if_pos hq2] at hK
            simp only [spC_none] at hK
            generalize at0 + 4096 - d = bs at *
            simp (disch := first | assumption | omega | (simp only [szR, fdsC_len, fdsC_all, wdsC_len, wdsC_all] <;> omega) | rfl | decide) only [gen0, gen1, gen2, rulesC, litR, bolR, Nat.reduceAdd, Nat.reduceLeDiff, numR, memR, valR, heapR, updR, intR, decR, extR, slR, segR, thenR, pnR, Int.reduceToNat, Int.reduceAdd, Int.reduceSub, Int.reduceLT, Int.reduceLE, Nat.reduceSub, Nat.reduceMul, Nat.reduceEqDiff, c2, c4, fdsC_at, hfd, hfq, hd, e57]
            exact hK _ (by (repeat first | assumption | exact Ext.refl | apply Ext.alloc | apply Ext.drew | (refine Ext.updN ?_ ?_; (focus first | omega | (simp only [szR] <;> omega))) | (refine Ext.updI ?_ ?_; (focus (simp; done)))))
          · rw [if_neg hq2] at hK
            generalize at0 + 4096 - d = bs at *
            have hmb : (bs + n) * p ≤ qq * p := Nat.mul_le_mul_right _ (by omega)
            have hmb2 : bs * p ≤ (bs + n) * p := Nat.mul_le_mul_right _ (by omega)
            have e60 : (bs : Int) + (n : Int) = ((bs + n : Nat) : Int) := by omega
            have hs1 := hm1 bs (by omega)
            have hs2 := hm1 (bs + n) (by omega)
            have hK' : ∀ w', Ext [] w w' → K (.tuple #[.agg [.int .u64 ((bs * p : Nat) : Int), .int .u64 (((bs + n) * p : Nat) : Int)].toArray, .bool true]) w' := hK
            clear hK
            simp (disch := first | assumption | omega | (simp only [szR, fdsC_len, fdsC_all, wdsC_len, wdsC_all] <;> omega) | rfl | decide) only [gen0, gen1, gen2, rulesC, litR, bolR, Nat.reduceAdd, Nat.reduceLeDiff, numR, memR, valR, heapR, updR, intR, decR, extR, slR, segR, thenR, pnR, Int.reduceToNat, Int.reduceAdd, Int.reduceSub, Int.reduceLT, Int.reduceLE, Nat.reduceSub, Nat.reduceMul, Nat.reduceEqDiff, c2, c4, fdsC_at, hfd, hfq, hd, e57, e60, hs1, hs2]
            exact hK' _ (by (repeat first | assumption | exact Ext.refl | apply Ext.alloc | apply Ext.drew | (refine Ext.updN ?_ ?_; (focus first | omega | (simp only [szR] <;> omega))) | (refine Ext.updI ?_ ?_; (focus (simp; done)))))
      clear hJ3 hK
      by_cases hE0 : 0 < E
      · have hor := or_half hnl
        simp (disch := first | assumption | omega | (simp only [szR, fdsC_len, fdsC_all, wdsC_len, wdsC_all] <;> omega) | rfl | decide) only [gen0, gen1, gen2, rulesC, litR, bolR, Nat.reduceAdd, Nat.reduceLeDiff, numR, memR, valR, heapR, updR, intR, decR, extR, slR, segR, thenR, pnR, Int.reduceToNat, Int.reduceAdd, Int.reduceSub, Int.reduceLT, Int.reduceLE, Nat.reduceSub, Nat.reduceMul, Nat.reduceEqDiff, c2, fdsC_at, hor]
        exact h3 _ (by rw [if_pos hE0])
      · obtain rfl : E = 0 := by omega
        simp (disch := first | assumption | omega | (simp only [szR, fdsC_len, fdsC_all, wdsC_len, wdsC_all] <;> omega) | rfl | decide) only [gen0, gen1, gen2, rulesC, litR, bolR, Nat.reduceAdd, Nat.reduceLeDiff, numR, memR, valR, heapR, updR, intR, decR, extR, slR, segR, thenR, pnR, Int.reduceToNat, Int.reduceAdd, Int.reduceSub, Int.reduceLT, Int.reduceLE, Nat.reduceSub, Nat.reduceMul, Nat.reduceEqDiff, c2, fdsC_at]
        exact h3 _ rfl
  clear hJ0 hK
  simp (disch := first | assumption | omega | (simp only [szR, fdsC_len, fdsC_all, wdsC_len, wdsC_all] <;> omega) | rfl | decide) only [gen0, gen1, gen2, rulesC, litR, bolR, Nat.reduceAdd, Nat.reduceLeDiff, numR, memR, valR, heapR, updR, intR, decR, extR, slR, segR, thenR, pnR, Int.reduceToNat, Int.reduceAdd, Int.reduceSub, Int.reduceLT, Int.reduceLE, Nat.reduceSub, Nat.reduceMul, Nat.reduceEqDiff, fdsC_at, fdsC_sub]
  repeat' (with_reducible apply And.intro)
  all_goals
    refine BWord_spec (by omega) (by omega) (by omega) fun w2 hx2 => ?_
    have hk2 := kept0 hx2
    have d2 : w2.heap[w.heap.size]? = some (.cells (fdsC B T E).toArray 69 (0, 0)) := (by first | with_reducible rfl | assumption | (simp (disch := first | assumption | omega | (simp only [szR, fdsC_len, fdsC_all, wdsC_len, wdsC_all] <;> omega) | rfl | decide) only [gen0, gen1, gen2, rulesC, litR, bolR, Nat.reduceAdd, Nat.reduceLeDiff, numR, memR, valR, heapR, updR, intR, decR, extR, slR, segR, thenR, pnR, Int.reduceToNat, Int.reduceAdd, Int.reduceSub, Int.reduceLT, Int.reduceLE, Nat.reduceSub, Nat.reduceMul, Nat.reduceEqDiff, hk2] <;> rfl))
    have d4 : w2.heap[w.heap.size + 1]? = some (.cells [.int .u64 0, .int .u64 0].toArray 26 (0, 0)) := (by first | with_reducible rfl | assumption | (simp (disch := first | assumption | omega | (simp only [szR, fdsC_len, fdsC_all, wdsC_len, wdsC_all] <;> omega) | rfl | decide) only [gen0, gen1, gen2, rulesC, litR, bolR, Nat.reduceAdd, Nat.reduceLeDiff, numR, memR, valR, heapR, updR, intR, decR, extR, slR, segR, thenR, pnR, Int.reduceToNat, Int.reduceAdd, Int.reduceSub, Int.reduceLT, Int.reduceLE, Nat.reduceSub, Nat.reduceMul, Nat.reduceEqDiff, hk2] <;> rfl))
    have hxw2 : Ext [] w w2 := Ext.trans (S := []) (by (repeat first | assumption | exact Ext.refl | apply Ext.alloc | apply Ext.drew | (refine Ext.updN ?_ ?_; (focus first | omega | (simp only [szR] <;> omega))) | (refine Ext.updI ?_ ?_; (focus (simp; done))))) hx2 (by simp)
    rw [hwv]
    simp (disch := first | assumption | omega | (simp only [szR, fdsC_len, fdsC_all, wdsC_len, wdsC_all] <;> omega) | rfl | decide) only [gen0, gen1, gen2, rulesC, litR, bolR, Nat.reduceAdd, Nat.reduceLeDiff, numR, memR, valR, heapR, updR, intR, decR, extR, slR, segR, thenR, pnR, Int.reduceToNat, Int.reduceAdd, Int.reduceSub, Int.reduceLT, Int.reduceLE, Nat.reduceSub, Nat.reduceMul, Nat.reduceEqDiff, d2, fdsC_sub]
    repeat' (with_reducible apply And.intro)
  all_goals
    refine BOf_spec (by omega) fun w3 hx3 => ?_
    have e1 : (B + T * 16384 + E * 67108864) % 16384 = B := by omega
    have e2 : (B + T * 16384 + E * 67108864) / 16384 % 4096 = T := by omega
    have e3 : (B + T * 16384 + E * 67108864) / 67108864 % 64 = E := by omega
    rw [e1, e2, e3]
    have d3 := hx3.at d2 (by simp)
    have d5 := hx3.at d4 (by simp)
    by_cases h37 : 37 < E
    · simp (disch := first | assumption | omega | (simp only [szR, fdsC_len, fdsC_all, wdsC_len, wdsC_all] <;> omega) | rfl | decide) only [gen0, gen1, gen2, rulesC, litR, bolR, Nat.reduceAdd, Nat.reduceLeDiff, numR, memR, valR, heapR, updR, intR, decR, extR, slR, segR, thenR, pnR, Int.reduceToNat, Int.reduceAdd, Int.reduceSub, Int.reduceLT, Int.reduceLE, Nat.reduceSub, Nat.reduceMul, Nat.reduceEqDiff, gdPR, pN_pickE, d3, fdsC_sub, fdsC_at, neqF134]
      exact hb w3 _ (by simp [h37]) d3 d5 (hxw2.trans hx3 (by simp))
    · by_cases h48 : 281474976710656 ≤ a
      · simp (disch := first | assumption | omega | (simp only [szR, fdsC_len, fdsC_all, wdsC_len, wdsC_all] <;> omega) | rfl | decide) only [gen0, gen1, gen2, rulesC, litR, bolR, Nat.reduceAdd, Nat.reduceLeDiff, numR, memR, valR, heapR, updR, intR, decR, extR, slR, segR, thenR, pnR, Int.reduceToNat, Int.reduceAdd, Int.reduceSub, Int.reduceLT, Int.reduceLE, Nat.reduceSub, Nat.reduceMul, Nat.reduceEqDiff, gdPR, pN_pickE, d3, fdsC_sub, fdsC_at, neqF134]
        exact hb w3 _ (by simp [h48]) d3 d5 (hxw2.trans hx3 (by simp))
      · simp (disch := first | assumption | omega | (simp only [szR, fdsC_len, fdsC_all, wdsC_len, wdsC_all] <;> omega) | rfl | decide) only [gen0, gen1, gen2, rulesC, litR, bolR, Nat.reduceAdd, Nat.reduceLeDiff, numR, memR, valR, heapR, updR, intR, decR, extR, slR, segR, thenR, pnR, Int.reduceToNat, Int.reduceAdd, Int.reduceSub, Int.reduceLT, Int.reduceLE, Nat.reduceSub, Nat.reduceMul, Nat.reduceEqDiff, gdPR, pN_pickE, d3, fdsC_sub, fdsC_at, neqF134]
        exact hb w3 _ (by simp [h37, h48]) d3 d5 (hxw2.trans hx3 (by simp))
end Go.Proofs.YtplfniijbeinmaaGreat
