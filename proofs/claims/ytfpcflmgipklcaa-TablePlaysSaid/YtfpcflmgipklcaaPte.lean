/- Entries of page tables: their numbers, and what they let be; conditions: those of each theorem. -/
import Derived.Test.YtfpcflmgipklcaaRam
import Derived.Test.YtfpcflmgipklcaaWord
namespace Go.Proofs.Ytfpcflmgipklcaa
open Go.Fx
set_option maxRecDepth 100000
set_option linter.unusedSimpArgs false
set_option linter.unusedVariables false
/-- an entry's cells. -/
def entC (f : Nat → Bool) (n : Nat) : List Value := [.bool (f 0), .bool (f 1), .bool (f 2), .bool (f 3), .bool (f 4), .bool (f 5), .bool (f 6), .bool (f 7), .bool (f 8), .bool (f 9), .bool (f 10), .bool (f 11), .int .u64 n]
theorem entC_len (f : Nat → Bool) (n : Nat) : (entC f n).length = 13 := by simp [entC]
theorem entC_all (f : Nat → Bool) (n : Nat) : (entC f n).all (fun v => v.oneCell') = true := by simp [entC]; exact ⟨rfl, rfl, rfl, rfl, rfl, rfl, rfl, rfl, rfl, rfl, rfl, rfl, rfl⟩
theorem entC_sub (f : Nat → Bool) (n : Nat) : sub (entC f n) 0 13 = entC f n := by simp [entC, sub]
theorem twelve {p : Nat → Prop} (h : p 0 ∧ p 1 ∧ p 2 ∧ p 3 ∧ p 4 ∧ p 5 ∧ p 6 ∧ p 7 ∧ p 8 ∧ p 9 ∧ p 10 ∧ p 11) {k : Nat} (hk : k < 12) : p k := by
  rcases (by omega : k = 0 ∨ k = 1 ∨ k = 2 ∨ k = 3 ∨ k = 4 ∨ k = 5 ∨ k = 6 ∨ k = 7 ∨ k = 8 ∨ k = 9 ∨ k = 10 ∨ k = 11) with rfl | rfl | rfl | rfl | rfl | rfl | rfl | rfl | rfl | rfl | rfl | rfl
  all_goals simp [h]
theorem entC_get {f : Nat → Bool} {n k : Nat} (h : k < 12) : (entC f n)[k]? = some (.bool (f k)) :=
  twelve (p := fun k => (entC f n)[k]? = some (.bool (f k))) ⟨rfl, rfl, rfl, rfl, rfl, rfl, rfl, rfl, rfl, rfl, rfl, rfl⟩ h
theorem entC_congr {f g : Nat → Bool} {n : Nat} (h : ∀ j, j < 12 → f j = g j) : entC f n = entC g n := by
  simp [entC, h]
theorem entC_inj {f g : Nat → Bool} {n k : Nat} (h : entC f n = entC g k) : (∀ j, j < 12 → f j = g j) ∧ n = k := by
  have h0 := fun (j : Nat) (hj : j < 12) => (entC_get (f := f) (n := n) hj).symm.trans (h ▸ entC_get (f := g) (n := k) hj)
  refine ⟨fun j hj => by simpa using h0 j hj, ?_⟩
  simp only [entC, List.cons.injEq, Value.int.injEq, and_true] at h
  have := h.2.2.2.2.2.2.2.2.2.2.2.2.2
  omega
def upd1 (f : Nat → Bool) (k : Nat) (v : Bool) : Nat → Bool := fun j => if j = k then v else f j
theorem entC_set {f : Nat → Bool} {n k : Nat} {v : Bool} (h : k < 12) : (entC f n).set k (.bool v) = entC (upd1 f k v) n :=
  twelve (p := fun k => (entC f n).set k (.bool v) = entC (upd1 f k v) n) ⟨rfl, rfl, rfl, rfl, rfl, rfl, rfl, rfl, rfl, rfl, rfl, rfl⟩ h
def ptrs (b : Nat) : List Value := [.pointer (some ⟨b, 0, none⟩), .pointer (some ⟨b, 1, none⟩), .pointer (some ⟨b, 2, none⟩), .pointer (some ⟨b, 3, none⟩), .pointer (some ⟨b, 4, none⟩), .pointer (some ⟨b, 5, none⟩), .pointer (some ⟨b, 6, none⟩), .pointer (some ⟨b, 7, none⟩),
  .pointer (some ⟨b, 8, none⟩), .pointer (some ⟨b, 9, none⟩), .pointer (some ⟨b, 10, none⟩), .pointer (some ⟨b, 11, none⟩)]
theorem ptrs_len (b : Nat) : (ptrs b).length = 12 := by simp [ptrs]
theorem ptrs_get {b k : Nat} (h : k < 12) : (ptrs b)[k]? = some (.pointer (some ⟨b, k, none⟩)) :=
  twelve (p := fun k => (ptrs b)[k]? = some (.pointer (some ⟨b, k, none⟩))) ⟨rfl, rfl, rfl, rfl, rfl, rfl, rfl, rfl, rfl, rfl, rfl, rfl⟩ h
def placesL : List Value := [.int .i64 0, .int .i64 1, .int .i64 2, .int .i64 3, .int .i64 4, .int .i64 5, .int .i64 6, .int .i64 7, .int .i64 58, .int .i64 59, .int .i64 60, .int .i64 61]
theorem placesL_len : placesL.length = 12 := by simp [placesL]
theorem placesL_get {k : Nat} (h : k < 12) : placesL[k]? = some (.int .i64 (pos k)) :=
  twelve (p := fun k => placesL[k]? = some (.int .i64 (pos k))) ⟨rfl, rfl, rfl, rfl, rfl, rfl, rfl, rfl, rfl, rfl, rfl, rfl⟩ h
theorem pos_lt {k : Nat} (h : k < 12) : pos k < 62 := by unfold pos; split <;> omega
theorem may_spec {w : World} {a b : Int} (h : 0 ≤ b ∧ b ≤ 64 ∧ 0 ≤ a ∧ a ≤ 64 - b) {K : Value → World → Prop} (hK : K (.bool true) w) : callsK Try.prog 73 #[.int .i64 a, .int .i64 b] w K := by
  apply F73_ok
  unfold F73
  simp (disch := first | assumption | omega | (simp only [szR, entC_len, entC_all, ptrs_len, placesL_len] <;> omega) | rfl | decide) only [gen0, gen1, gen2, rulesM, litR, bolR, Nat.reduceAdd, Nat.reduceLeDiff, numR, memR, valR, heapR, updR, intR, decR, extR, slR, segR, thenR, pnR, Int.reduceToNat, Int.reduceAdd, Int.reduceSub, Int.reduceLT, Int.reduceLE, Nat.reduceSub, Nat.reduceMul, Nat.reduceEqDiff, joinBR]
  exact hK
theorem Mask_spec {w : World} {k v : Int} (h : 0 < k ∧ k < 64) (hv : v = ((2 ^ k.toNat - 1 : Nat) : Int)) {K : Value → World → Prop} (hK : K (.int .u64 v) w) : callsK Try.prog 51 #[.int .i64 k] w K := by
  have hs := shl_bit (i := k) ⟨by omega, by omega⟩
  have hpl := pow_lt64 (i := k.toNat) (by omega)
  have hp := Nat.two_pow_pos k.toNat
  subst hv
  apply F51_ok
  unfold F51
  generalize 2 ^ k.toNat = p at hpl hp hK hs
  have e : (p : Int) - 1 = ((p - 1 : Nat) : Int) := by omega
  simp (disch := first | assumption | omega | (simp only [szR, entC_len, entC_all, ptrs_len, placesL_len] <;> omega) | rfl | decide) only [gen0, gen1, gen2, rulesM, litR, bolR, Nat.reduceAdd, Nat.reduceLeDiff, numR, memR, valR, heapR, updR, intR, decR, extR, slR, segR, thenR, pnR, Int.reduceToNat, Int.reduceAdd, Int.reduceSub, Int.reduceLT, Int.reduceLE, Nat.reduceSub, Nat.reduceMul, Nat.reduceEqDiff, hs, e]
  exact hK
theorem Get_spec {w : World} {x : Nat} {a k : Int} (ha : 0 ≤ a) (hk : 0 < k ∧ k < 64) (hak : a + k ≤ 64) (hx : x < 18446744073709551616) {K : Value → World → Prop}
    (hK : ∀ w', Ext [] w w' → K (.int .u64 ((x / 2 ^ a.toNat % 2 ^ k.toNat : Nat) : Int)) w') : callsK Try.prog 52 #[.int .u64 x, .int .i64 a, .int .i64 k] w K := by
  have hfd := fdiv_pow (v := x) (by omega) a.toNat
  have hq : x / 2 ^ a.toNat < 18446744073709551616 := Nat.lt_of_le_of_lt (Nat.div_le_self _ _) hx
  have hmod := Nat.and_two_pow_sub_one_eq_mod (x / 2 ^ a.toNat) k.toNat
  have hpl := pow_lt64 (i := k.toNat) (by omega)
  have hp := Nat.two_pow_pos k.toNat
  apply F52_ok
  unfold F52
  simp (disch := first | assumption | omega | (simp only [szR, entC_len, entC_all, ptrs_len, placesL_len] <;> omega) | rfl | decide) only [gen0, gen1, gen2, rulesM, litR, bolR, Nat.reduceAdd, Nat.reduceLeDiff, numR, memR, valR, heapR, updR, intR, decR, extR, slR, segR, thenR, pnR, Int.reduceToNat, Int.reduceAdd, Int.reduceSub, Int.reduceLT, Int.reduceLE, Nat.reduceSub, Nat.reduceMul, Nat.reduceEqDiff]
  refine may_spec (by omega) ?_
  rw [Int.toNat_natCast] at hfd
  generalize x / 2 ^ a.toNat = q at hfd hq hmod hK
  simp (disch := first | assumption | omega | (simp only [szR, entC_len, entC_all, ptrs_len, placesL_len] <;> omega) | rfl | decide) only [gen0, gen1, gen2, rulesM, litR, bolR, Nat.reduceAdd, Nat.reduceLeDiff, numR, memR, valR, heapR, updR, intR, decR, extR, slR, segR, thenR, pnR, Int.reduceToNat, Int.reduceAdd, Int.reduceSub, Int.reduceLT, Int.reduceLE, Nat.reduceSub, Nat.reduceMul, Nat.reduceEqDiff, hfd]
  refine Mask_spec hk rfl ?_
  generalize 2 ^ k.toNat = p at hmod hpl hp hK
  have hand := and_u64 (a := (q : Int)) (b := ((p - 1 : Nat) : Int)) (by omega) (by omega)
  simp only [Int.toNat_natCast, hmod] at hand
  simp (disch := first | assumption | omega | (simp only [szR, entC_len, entC_all, ptrs_len, placesL_len] <;> omega) | rfl | decide) only [gen0, gen1, gen2, rulesM, litR, bolR, Nat.reduceAdd, Nat.reduceLeDiff, numR, memR, valR, heapR, updR, intR, decR, extR, slR, segR, thenR, pnR, Int.reduceToNat, Int.reduceAdd, Int.reduceSub, Int.reduceLT, Int.reduceLE, Nat.reduceSub, Nat.reduceMul, Nat.reduceEqDiff, hand]
  exact hK _ (by (repeat first | assumption | exact Ext.refl | apply Ext.alloc | apply Ext.drew | (refine Ext.updN ?_ ?_; (focus first | omega | (simp only [szR] <;> omega))) | (refine Ext.updI ?_ ?_; (focus (simp; done)))))
theorem Put_spec {w : World} {n : Nat} (hn : n < 18446744073709551616) {K : Value → World → Prop}
    (hK : ∀ w', Ext [] w w' → K (.int .u64 ((n % 17592186044416 * 1024 : Nat) : Int)) w') : callsK Try.prog 55 #[.int .u64 0, .int .i64 10, .int .i64 44, .int .u64 n] w K := by
  have hmod : n &&& 17592186044415 = n % 17592186044416 := Nat.and_two_pow_sub_one_eq_mod n 44
  have hand := and_u64 (a := (n : Int)) (b := 17592186044415) (by omega) (by omega)
  rw [Int.toNat_natCast, show (17592186044415 : Int).toNat = 17592186044415 from rfl, hmod] at hand
  have hlt := Nat.mod_lt n (show 17592186044416 > 0 by omega)
  have han : bitI .andNot .u64 0 18014398509480960 = 0 := by decide
  generalize n % 17592186044416 = q at hand hlt hK
  have e : (q : Int) * 2 ^ 10 = ((q * 1024 : Nat) : Int) := by omega
  have hor := or_u64 (a := 0) (b := ((q * 1024 : Nat) : Int)) (by omega) (by omega)
  rw [Int.toNat_natCast, show (0 : Int).toNat = 0 from rfl, Nat.zero_or] at hor
  have hsh : IntKind.u64.wrap (17592186044415 * 2 ^ 10) = 18014398509480960 := by decide
  have hsh2 : IntKind.u64.wrap ((q : Int) * 2 ^ 10) = ((q * 1024 : Nat) : Int) := by rw [e]; exact wrap_u64 (by omega)
  apply F55_ok
  unfold F55
  simp (disch := first | assumption | omega | (simp only [szR, entC_len, entC_all, ptrs_len, placesL_len] <;> omega) | rfl | decide) only [gen0, gen1, gen2, rulesM, litR, bolR, Nat.reduceAdd, Nat.reduceLeDiff, numR, memR, valR, heapR, updR, intR, decR, extR, slR, segR, thenR, pnR, Int.reduceToNat, Int.reduceAdd, Int.reduceSub, Int.reduceLT, Int.reduceLE, Nat.reduceSub, Nat.reduceMul, Nat.reduceEqDiff]
  refine may_spec (by omega) ?_
  simp (disch := first | assumption | omega | (simp only [szR, entC_len, entC_all, ptrs_len, placesL_len] <;> omega) | rfl | decide) only [gen0, gen1, gen2, rulesM, litR, bolR, Nat.reduceAdd, Nat.reduceLeDiff, numR, memR, valR, heapR, updR, intR, decR, extR, slR, segR, thenR, pnR, Int.reduceToNat, Int.reduceAdd, Int.reduceSub, Int.reduceLT, Int.reduceLE, Nat.reduceSub, Nat.reduceMul, Nat.reduceEqDiff]
  refine Mask_spec (v := 17592186044415) (by omega) (by decide) ?_
  simp (disch := first | assumption | omega | (simp only [szR, entC_len, entC_all, ptrs_len, placesL_len] <;> omega) | rfl | decide) only [gen0, gen1, gen2, rulesM, litR, bolR, Nat.reduceAdd, Nat.reduceLeDiff, numR, memR, valR, heapR, updR, intR, decR, extR, slR, segR, thenR, pnR, Int.reduceToNat, Int.reduceAdd, Int.reduceSub, Int.reduceLT, Int.reduceLE, Nat.reduceSub, Nat.reduceMul, Nat.reduceEqDiff, hsh, han, hand, hsh2, hor]
  exact hK _ (by (repeat first | assumption | exact Ext.refl | apply Ext.alloc | apply Ext.drew | (refine Ext.updN ?_ ?_; (focus first | omega | (simp only [szR] <;> omega))) | (refine Ext.updI ?_ ?_; (focus (simp; done)))))
theorem flagsOf_spec {w : World} {b : Nat} {K : Value → World → Prop} (hK : ∀ w', Ext [] w w' → K (.agg (ptrs b).toArray) w') : callsK Try.prog 53 #[.pointer (some ⟨b, 0, none⟩)] w K := by
  apply F53_ok
  unfold F53
  simp (disch := first | assumption | omega | (simp only [szR, entC_len, entC_all, ptrs_len, placesL_len] <;> omega) | rfl | decide) only [gen0, gen1, gen2, rulesM, litR, bolR, Nat.reduceAdd, Nat.reduceLeDiff, numR, memR, valR, heapR, updR, intR, decR, extR, slR, segR, thenR, pnR, Int.reduceToNat, Int.reduceAdd, Int.reduceSub, Int.reduceLT, Int.reduceLE, Nat.reduceSub, Nat.reduceMul, Nat.reduceEqDiff]
  exact hK _ (by (repeat first | assumption | exact Ext.refl | apply Ext.alloc | apply Ext.drew | (refine Ext.updN ?_ ?_; (focus first | omega | (simp only [szR] <;> omega))) | (refine Ext.updI ?_ ?_; (focus (simp; done)))))
theorem places_spec {w : World} {K : Value → World → Prop} (hK : ∀ w', Ext [] w w' → K (.agg placesL.toArray) w') : callsK Try.prog 54 #[] w K := by
  apply F54_ok
  unfold F54
  simp (disch := first | assumption | omega | (simp only [szR, entC_len, entC_all, ptrs_len, placesL_len] <;> omega) | rfl | decide) only [gen0, gen1, gen2, rulesM, litR, bolR, Nat.reduceAdd, Nat.reduceLeDiff, numR, memR, valR, heapR, updR, intR, decR, extR, slR, segR, thenR, pnR, Int.reduceToNat, Int.reduceAdd, Int.reduceSub, Int.reduceLT, Int.reduceLE, Nat.reduceSub, Nat.reduceMul, Nat.reduceEqDiff]
  exact hK _ (by (repeat first | assumption | exact Ext.refl | apply Ext.alloc | apply Ext.drew | (refine Ext.updN ?_ ?_; (focus first | omega | (simp only [szR] <;> omega))) | (refine Ext.updI ?_ ?_; (focus (simp; done)))))
end Go.Proofs.Ytfpcflmgipklcaa
