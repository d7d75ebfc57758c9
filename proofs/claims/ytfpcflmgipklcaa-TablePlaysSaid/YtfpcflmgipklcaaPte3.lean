/- Entries of page tables: what they let be, and which is an address's; conditions: those of each theorem. -/
import Derived.Test.YtfpcflmgipklcaaPte2
namespace Go.Proofs.Ytfpcflmgipklcaa
open Go.Fx
set_option maxRecDepth 100000
set_option linter.unusedSimpArgs false
set_option linter.unusedVariables false
theorem entC_at (f : Nat → Bool) (n : Nat) : (entC f n)[0]? = some (.bool (f 0)) ∧ (entC f n)[1]? = some (.bool (f 1)) ∧ (entC f n)[2]? = some (.bool (f 2)) ∧ (entC f n)[3]? = some (.bool (f 3)) ∧ (entC f n)[4]? = some (.bool (f 4)) ∧ (entC f n)[5]? = some (.bool (f 5)) ∧
    (entC f n)[6]? = some (.bool (f 6)) ∧ (entC f n)[7]? = some (.bool (f 7)) ∧ (entC f n)[8]? = some (.bool (f 8)) ∧ (entC f n)[9]? = some (.bool (f 9)) ∧ (entC f n)[10]? = some (.bool (f 10)) ∧ (entC f n)[11]? = some (.bool (f 11)) ∧ (entC f n)[12]? = some (.int .u64 n) :=
  ⟨rfl, rfl, rfl, rfl, rfl, rfl, rfl, rfl, rfl, rfl, rfl, rfl, rfl⟩
def leaf (f : Nat → Bool) : Bool := f 0 && (f 1 || f 2 || f 3)
def right (f : Nat → Bool) (n : Nat) : Bool := !f 0 || (!(f 2 && !f 1) && !(f 8 && !f 2) && !(f 9 && !f 1) && decide (n < 17592186044416) && (leaf f || (!f 4 && !f 6 && !f 7 && !f 8 && !f 9 && !f 10 && !f 11)))
def idx (x l : Nat) : Nat := x / 2 ^ (12 + 9 * l) % 512
theorem idx_lt (x l : Nat) : idx x l < 512 := Nat.mod_lt _ (by decide)
theorem Leaf_spec {w : World} {f : Nat → Bool} {n : Nat} {K : Value → World → Prop} (hK : ∀ w', Ext [] w w' → K (.bool (leaf f)) w') : callsK Try.prog 23 #[.agg (entC f n).toArray] w K := by
  apply F23_ok
  unfold F23
  have hk : ∀ b, b = leaf f → K (.bool b) (w.alloc (.cells (entC f n).toArray 40)) := by rintro _ rfl; exact hK _ (by (repeat first | assumption | exact Ext.refl | apply Ext.alloc | apply Ext.drew | (refine Ext.updN ?_ ?_; (focus first | omega | (simp only [szR] <;> omega))) | (refine Ext.updI ?_ ?_; (focus (simp; done)))))
  clear hK
  cases h0 : f 0
  · simp (disch := first | assumption | omega | (simp only [szR, entC_len, entC_all, ptrs_len, placesL_len] <;> omega) | rfl | decide) only [gen0, gen1, gen2, rulesM, litR, bolR, Nat.reduceAdd, Nat.reduceLeDiff, numR, memR, valR, heapR, updR, intR, decR, extR, slR, segR, thenR, pnR, Int.reduceToNat, Int.reduceAdd, Int.reduceSub, Int.reduceLT, Int.reduceLE, Nat.reduceSub, Nat.reduceMul, Nat.reduceEqDiff, joinBR, entC_at, h0]
    exact hk _ (by simp [leaf, h0])
  cases h1 : f 1
  · cases h2 : f 2
    · simp (disch := first | assumption | omega | (simp only [szR, entC_len, entC_all, ptrs_len, placesL_len] <;> omega) | rfl | decide) only [gen0, gen1, gen2, rulesM, litR, bolR, Nat.reduceAdd, Nat.reduceLeDiff, numR, memR, valR, heapR, updR, intR, decR, extR, slR, segR, thenR, pnR, Int.reduceToNat, Int.reduceAdd, Int.reduceSub, Int.reduceLT, Int.reduceLE, Nat.reduceSub, Nat.reduceMul, Nat.reduceEqDiff, joinBR, entC_at, h0, h1, h2]
      exact hk _ (by simp [leaf, h0, h1, h2])
    · simp (disch := first | assumption | omega | (simp only [szR, entC_len, entC_all, ptrs_len, placesL_len] <;> omega) | rfl | decide) only [gen0, gen1, gen2, rulesM, litR, bolR, Nat.reduceAdd, Nat.reduceLeDiff, numR, memR, valR, heapR, updR, intR, decR, extR, slR, segR, thenR, pnR, Int.reduceToNat, Int.reduceAdd, Int.reduceSub, Int.reduceLT, Int.reduceLE, Nat.reduceSub, Nat.reduceMul, Nat.reduceEqDiff, joinBR, entC_at, h0, h1, h2]
      exact hk _ (by simp [leaf, h0, h1, h2])
  · simp (disch := first | assumption | omega | (simp only [szR, entC_len, entC_all, ptrs_len, placesL_len] <;> omega) | rfl | decide) only [gen0, gen1, gen2, rulesM, litR, bolR, Nat.reduceAdd, Nat.reduceLeDiff, numR, memR, valR, heapR, updR, intR, decR, extR, slR, segR, thenR, pnR, Int.reduceToNat, Int.reduceAdd, Int.reduceSub, Int.reduceLT, Int.reduceLE, Nat.reduceSub, Nat.reduceMul, Nat.reduceEqDiff, joinBR, entC_at, h0, h1]
    exact hk _ (by simp [leaf, h0, h1])
def eqE (f : Nat → Bool) (n : Nat) (g : Nat → Bool) (m : Nat) : Bool := (f 0 == g 0 && (f 1 == g 1 && (f 2 == g 2 && (f 3 == g 3 && (f 4 == g 4 && (f 5 == g 5 && (f 6 == g 6 && (f 7 == g 7 && (f 8 == g 8 && (f 9 == g 9 && (f 10 == g 10 && (f 11 == g 11 && ((n : Int) == (m : Int) && true)))))))))))))
theorem eqE_iff {f g : Nat → Bool} {n m : Nat} : eqE f n g m = true ↔ (∀ j, j < 12 → f j = g j) ∧ n = m := by
  unfold eqE
  simp only [Bool.and_eq_true, beq_iff_eq, Bool.and_true]
  constructor
  · rintro ⟨h0, h1, h2, h3, h4, h5, h6, h7, h8, h9, h10, h11, h12⟩
    exact ⟨fun j hj => twelve (p := fun j => f j = g j) ⟨h0, h1, h2, h3, h4, h5, h6, h7, h8, h9, h10, h11⟩ hj, by omega⟩
  · rintro ⟨h, h2⟩
    exact ⟨h 0 (by omega), h 1 (by omega), h 2 (by omega), h 3 (by omega), h 4 (by omega), h 5 (by omega), h 6 (by omega), h 7 (by omega), h 8 (by omega), h 9 (by omega), h 10 (by omega), h 11 (by omega), by omega⟩
theorem eqlE {f g : Nat → Bool} {n m : Nat} (x y : Operand) (w : World) : (binV .eql 40 x y (.agg (entC f n).toArray) (.agg (entC g m).toArray)).run Try.prog w = .ok (.bool (eqE f n g m)) w := by
  exact RM_eql_40 _ _ _ _ _ _ _ _ _ _ _ _ _ _ _ _ _ _ _ _ _ _ _ _ _ _ x y w
def bare (b : Bool) : Nat → Bool := fun j => decide (j = 0) || (decide (j = 5) && b)
theorem bare_eq (b : Bool) (n : Nat) : [.bool true, .bool false, .bool false, .bool false, .bool false, .bool b, .bool false, .bool false, .bool false, .bool false, .bool false, .bool false, .int .u64 (n : Int)] = entC (bare b) n := by simp [entC, bare]
theorem right_bare {f : Nat → Bool} {n : Nat} (h0 : f 0 = true) (h1 : f 1 = false) (h2 : f 2 = false) (h3 : f 3 = false) (h8 : f 8 = false) (h9 : f 9 = false) (hn : n < 17592186044416) : eqE f n (bare (f 5)) n = right f n := by
  unfold eqE
  simp [right, leaf, bare, h0, h1, h2, h3, h8, h9, hn, Bool.and_assoc]
set_option maxHeartbeats 1000000 in
theorem Right_spec {w : World} {f : Nat → Bool} {n : Nat} (hn : n < 18446744073709551616) {K : Value → World → Prop} (hK : ∀ w', Ext [] w w' → K (.bool (right f n)) w') : callsK Try.prog 24 #[.agg (entC f n).toArray] w K := by
  apply F24_ok
  unfold F24
  have hk : ∀ b w', b = right f n → Ext [] w w' → K (.bool b) w' := by rintro _ w' rfl h; exact hK _ h
  clear hK
  cases h0 : f 0
  · simp (disch := first | assumption | omega | (simp only [szR, entC_len, entC_all, ptrs_len, placesL_len] <;> omega) | rfl | decide) only [gen0, gen1, gen2, rulesM, litR, bolR, Nat.reduceAdd, Nat.reduceLeDiff, numR, memR, valR, heapR, updR, intR, decR, extR, slR, segR, thenR, pnR, Int.reduceToNat, Int.reduceAdd, Int.reduceSub, Int.reduceLT, Int.reduceLE, Nat.reduceSub, Nat.reduceMul, Nat.reduceEqDiff, joinBR, entC_at, h0]
    exact hk _ _ (by simp [right, h0]) (by (repeat first | assumption | exact Ext.refl | apply Ext.alloc | apply Ext.drew | (refine Ext.updN ?_ ?_; (focus first | omega | (simp only [szR] <;> omega))) | (refine Ext.updI ?_ ?_; (focus (simp; done)))))
  simp (disch := first | assumption | omega | (simp only [szR, entC_len, entC_all, ptrs_len, placesL_len] <;> omega) | rfl | decide) only [gen0, gen1, gen2, rulesM, litR, bolR, Nat.reduceAdd, Nat.reduceLeDiff, numR, memR, valR, heapR, updR, intR, decR, extR, slR, segR, thenR, pnR, Int.reduceToNat, Int.reduceAdd, Int.reduceSub, Int.reduceLT, Int.reduceLE, Nat.reduceSub, Nat.reduceMul, Nat.reduceEqDiff, entC_at, h0]
  refine joinL.intro fun J0 hJ0 => ?_
  have hT : ∀ w', Ext [] w w' → right f n = false → J0 [.bool true] w' := by
    intro w' hx hr
    apply hJ0
    intro _
    simp (disch := first | assumption | omega | (simp only [szR, entC_len, entC_all, ptrs_len, placesL_len] <;> omega) | rfl | decide) only [gen0, gen1, gen2, rulesM, litR, bolR, Nat.reduceAdd, Nat.reduceLeDiff, numR, memR, valR, heapR, updR, intR, decR, extR, slR, segR, thenR, pnR, Int.reduceToNat, Int.reduceAdd, Int.reduceSub, Int.reduceLT, Int.reduceLE, Nat.reduceSub, Nat.reduceMul, Nat.reduceEqDiff]
    exact hk _ _ hr.symm hx
  have hF : ∀ w', Ext [] (w.alloc (.cells (entC f n).toArray 40)) w' → (f 2 = true → f 1 = true) → (f 8 = true → f 2 = true) → (f 9 = true → f 1 = true) → J0 [.bool (decide ((17592186044415 : Int) < n))] w' := by
    intro w' hx g1 g2 g3
    have hxw : Ext [] w w' := Ext.trans (S := []) (by (repeat first | assumption | exact Ext.refl | apply Ext.alloc | apply Ext.drew | (refine Ext.updN ?_ ?_; (focus first | omega | (simp only [szR] <;> omega))) | (refine Ext.updI ?_ ?_; (focus (simp; done))))) hx (by simp)
    by_cases hn2 : n < 17592186044416
    · apply hJ0
      intro _
      have hkx := kept0 hx
      simp (disch := first | assumption | omega | (simp only [szR, entC_len, entC_all, ptrs_len, placesL_len] <;> omega) | rfl | decide) only [gen0, gen1, gen2, rulesM, litR, bolR, Nat.reduceAdd, Nat.reduceLeDiff, numR, memR, valR, heapR, updR, intR, decR, extR, slR, segR, thenR, pnR, Int.reduceToNat, Int.reduceAdd, Int.reduceSub, Int.reduceLT, Int.reduceLE, Nat.reduceSub, Nat.reduceMul, Nat.reduceEqDiff, hkx, entC_sub]
      refine Leaf_spec fun w2 hx2 => ?_
      have hxw2 := hxw.trans hx2 (by simp)
      have hk2 := kept0 hx2
      have hsz := hx.size
      simp only [szR] at hsz
      cases hl : leaf f
      · have h1 : f 1 = false := by cases h : f 1 <;> simp_all [leaf]
        have h2 : f 2 = false := by cases h : f 2 <;> simp_all [leaf]
        have h3 : f 3 = false := by cases h : f 3 <;> simp_all [leaf]
        have h8 : f 8 = false := by cases h : f 8 <;> simp_all
        have h9 : f 9 = false := by cases h : f 9 <;> simp_all
        simp (disch := first | assumption | omega | (simp only [szR, entC_len, entC_all, ptrs_len, placesL_len] <;> omega) | rfl | decide) only [gen0, gen1, gen2, rulesM, litR, bolR, Nat.reduceAdd, Nat.reduceLeDiff, numR, memR, valR, heapR, updR, intR, decR, extR, slR, segR, thenR, pnR, Int.reduceToNat, Int.reduceAdd, Int.reduceSub, Int.reduceLT, Int.reduceLE, Nat.reduceSub, Nat.reduceMul, Nat.reduceEqDiff, hk2, hkx, entC_sub, entC_at, bare_eq, eqlE]
        exact hk _ _ (right_bare h0 h1 h2 h3 h8 h9 hn2) hxw2
      · simp (disch := first | assumption | omega | (simp only [szR, entC_len, entC_all, ptrs_len, placesL_len] <;> omega) | rfl | decide) only [gen0, gen1, gen2, rulesM, litR, bolR, Nat.reduceAdd, Nat.reduceLeDiff, numR, memR, valR, heapR, updR, intR, decR, extR, slR, segR, thenR, pnR, Int.reduceToNat, Int.reduceAdd, Int.reduceSub, Int.reduceLT, Int.reduceLE, Nat.reduceSub, Nat.reduceMul, Nat.reduceEqDiff]
        have hr : right f n = true := by
          unfold right
          rw [hl, h0, decide_eq_true hn2]
          cases h2 : f 2 <;> cases h1 : f 1 <;> cases h8 : f 8 <;> cases h9 : f 9 <;> simp_all
        exact hk _ _ hr.symm hxw2
    · have : decide ((17592186044415 : Int) < n) = true := decide_eq_true (by omega)
      rw [this]
      refine hT w' hxw ?_
      simp [right, h0]
      omega
  clear hJ0
  cases h2 : f 2 <;> cases h1 : f 1 <;> cases h8 : f 8 <;> cases h9 : f 9
  all_goals simp (disch := first | assumption | omega | (simp only [szR, entC_len, entC_all, ptrs_len, placesL_len] <;> omega) | rfl | decide) only [gen0, gen1, gen2, rulesM, litR, bolR, Nat.reduceAdd, Nat.reduceLeDiff, numR, memR, valR, heapR, updR, intR, decR, extR, slR, segR, thenR, pnR, Int.reduceToNat, Int.reduceAdd, Int.reduceSub, Int.reduceLT, Int.reduceLE, Nat.reduceSub, Nat.reduceMul, Nat.reduceEqDiff, joinBR, entC_at, h0, h1, h2, h8, h9]
  all_goals first
    | exact hT _ (by (repeat first | assumption | exact Ext.refl | apply Ext.alloc | apply Ext.drew | (refine Ext.updN ?_ ?_; (focus first | omega | (simp only [szR] <;> omega))) | (refine Ext.updI ?_ ?_; (focus (simp; done))))) (by simp [right, h0, h1, h2, h8, h9])
    | skip
  all_goals constructor
  all_goals
    refine Mask_spec (v := 17592186044415) (by omega) (by decide) ?_
    simp (disch := first | assumption | omega | (simp only [szR, entC_len, entC_all, ptrs_len, placesL_len] <;> omega) | rfl | decide) only [gen0, gen1, gen2, rulesM, litR, bolR, Nat.reduceAdd, Nat.reduceLeDiff, numR, memR, valR, heapR, updR, intR, decR, extR, slR, segR, thenR, pnR, Int.reduceToNat, Int.reduceAdd, Int.reduceSub, Int.reduceLT, Int.reduceLE, Nat.reduceSub, Nat.reduceMul, Nat.reduceEqDiff, entC_at]
    exact hF _ (by (repeat first | assumption | exact Ext.refl | apply Ext.alloc | apply Ext.drew | (refine Ext.updN ?_ ?_; (focus first | omega | (simp only [szR] <;> omega))) | (refine Ext.updI ?_ ?_; (focus (simp; done))))) (by simp [h2, h1]) (by simp [h8, h2]) (by simp [h9, h1])
theorem Get_of {w : World} {x v : Nat} {a k : Int} (ha : 0 ≤ a) (hk : 0 < k ∧ k < 64) (hak : a + k ≤ 64) (hx : x < 18446744073709551616) (hv : x / 2 ^ a.toNat % 2 ^ k.toNat = v) {K : Value → World → Prop}
    (hK : ∀ w', Ext [] w w' → K (.int .u64 v) w') : callsK Try.prog 52 #[.int .u64 x, .int .i64 a, .int .i64 k] w K := by
  subst hv
  exact Get_spec ha hk hak hx hK
theorem Index_spec {w : World} {x l : Nat} (hx : x < 18446744073709551616) (hl : l < 3) {K : Value → World → Prop} (hK : ∀ w', Ext [] w w' → K (.int .i64 (idx x l : Nat)) w') : callsK Try.prog 49 #[.int .u64 x, .int .i64 l] w K := by
  have hlt := idx_lt x l
  apply F49_ok
  unfold F49
  rcases (by omega : l = 0 ∨ l = 1 ∨ l = 2) with rfl | rfl | rfl
  all_goals simp (disch := first | assumption | omega | (simp only [szR, entC_len, entC_all, ptrs_len, placesL_len] <;> omega) | rfl | decide) only [gen0, gen1, gen2, rulesM, litR, bolR, Nat.reduceAdd, Nat.reduceLeDiff, numR, memR, valR, heapR, updR, intR, decR, extR, slR, segR, thenR, pnR, Int.reduceToNat, Int.reduceAdd, Int.reduceSub, Int.reduceLT, Int.reduceLE, Nat.reduceSub, Nat.reduceMul, Nat.reduceEqDiff, joinBR]
  · refine Get_of (v := idx x 0) (by omega) (by omega) (by omega) hx rfl fun w1 hx1 => ?_
    generalize idx x 0 = y at hlt hK
    simp (disch := first | assumption | omega | (simp only [szR, entC_len, entC_all, ptrs_len, placesL_len] <;> omega) | rfl | decide) only [gen0, gen1, gen2, rulesM, litR, bolR, Nat.reduceAdd, Nat.reduceLeDiff, numR, memR, valR, heapR, updR, intR, decR, extR, slR, segR, thenR, pnR, Int.reduceToNat, Int.reduceAdd, Int.reduceSub, Int.reduceLT, Int.reduceLE, Nat.reduceSub, Nat.reduceMul, Nat.reduceEqDiff]
    exact hK _ hx1
  · refine Get_of (v := idx x 1) (by omega) (by omega) (by omega) hx rfl fun w1 hx1 => ?_
    generalize idx x 1 = y at hlt hK
    simp (disch := first | assumption | omega | (simp only [szR, entC_len, entC_all, ptrs_len, placesL_len] <;> omega) | rfl | decide) only [gen0, gen1, gen2, rulesM, litR, bolR, Nat.reduceAdd, Nat.reduceLeDiff, numR, memR, valR, heapR, updR, intR, decR, extR, slR, segR, thenR, pnR, Int.reduceToNat, Int.reduceAdd, Int.reduceSub, Int.reduceLT, Int.reduceLE, Nat.reduceSub, Nat.reduceMul, Nat.reduceEqDiff]
    exact hK _ hx1
  · refine Get_of (v := idx x 2) (by omega) (by omega) (by omega) hx rfl fun w1 hx1 => ?_
    generalize idx x 2 = y at hlt hK
    simp (disch := first | assumption | omega | (simp only [szR, entC_len, entC_all, ptrs_len, placesL_len] <;> omega) | rfl | decide) only [gen0, gen1, gen2, rulesM, litR, bolR, Nat.reduceAdd, Nat.reduceLeDiff, numR, memR, valR, heapR, updR, intR, decR, extR, slR, segR, thenR, pnR, Int.reduceToNat, Int.reduceAdd, Int.reduceSub, Int.reduceLT, Int.reduceLE, Nat.reduceSub, Nat.reduceMul, Nat.reduceEqDiff]
    exact hK _ hx1
theorem May_spec {w : World} {x : Nat} {K : Value → World → Prop} (hK : K (.bool (decide (x < 274877906944))) w) : callsK Try.prog 34 #[.int .u64 x] w K := by
  apply F34_ok
  unfold F34
  by_cases h : x < 274877906944
  · rw [decide_eq_true h] at hK
    simp (disch := first | assumption | omega | (simp only [szR, entC_len, entC_all, ptrs_len, placesL_len] <;> omega) | rfl | decide) only [gen0, gen1, gen2, rulesM, litR, bolR, Nat.reduceAdd, Nat.reduceLeDiff, numR, memR, valR, heapR, updR, intR, decR, extR, slR, segR, thenR, pnR, Int.reduceToNat, Int.reduceAdd, Int.reduceSub, Int.reduceLT, Int.reduceLE, Nat.reduceSub, Nat.reduceMul, Nat.reduceEqDiff, joinBR]
    exact hK
  · rw [decide_eq_false h] at hK
    simp (disch := first | assumption | omega | (simp only [szR, entC_len, entC_all, ptrs_len, placesL_len] <;> omega) | rfl | decide) only [gen0, gen1, gen2, rulesM, litR, bolR, Nat.reduceAdd, Nat.reduceLeDiff, numR, memR, valR, heapR, updR, intR, decR, extR, slR, segR, thenR, pnR, Int.reduceToNat, Int.reduceAdd, Int.reduceSub, Int.reduceLT, Int.reduceLE, Nat.reduceSub, Nat.reduceMul, Nat.reduceEqDiff, joinBR]
    exact hK
theorem wplace_spec {w : World} {p i : Nat} (hp : p < 64) (hi : i < 512) {K : Value → World → Prop} (hK : K (.int .u64 (p * 4096 + i * 8 : Nat)) w) : callsK Try.prog 48 #[.int .u64 p, .int .i64 i] w K := by
  have e : (p : Int) * 4096 + i * 8 = ((p * 4096 + i * 8 : Nat) : Int) := by omega
  apply F48_ok
  unfold F48
  simp (disch := first | assumption | omega | (simp only [szR, entC_len, entC_all, ptrs_len, placesL_len] <;> omega) | rfl | decide) only [gen0, gen1, gen2, rulesM, litR, bolR, Nat.reduceAdd, Nat.reduceLeDiff, numR, memR, valR, heapR, updR, intR, decR, extR, slR, segR, thenR, pnR, Int.reduceToNat, Int.reduceAdd, Int.reduceSub, Int.reduceLT, Int.reduceLE, Nat.reduceSub, Nat.reduceMul, Nat.reduceEqDiff, e]
  exact hK
theorem Frames_spec {w : World} {r q n : Nat} {m g : Nat → Int} (h : Mem w r q n m g) (hn : 0 < n ∧ n ≤ 1000) {K : Value → World → Prop} (hK : K (.int .i64 n) w) : callsK Try.prog 31 #[.pointer (some ⟨r, 0, none⟩)] w K := by
  have hh := h.head
  apply F31_ok
  unfold F31
  simp (disch := first | assumption | omega | (simp only [szR, entC_len, entC_all, ptrs_len, placesL_len] <;> omega) | rfl | decide) only [gen0, gen1, gen2, rulesM, litR, bolR, Nat.reduceAdd, Nat.reduceLeDiff, numR, memR, valR, heapR, updR, intR, decR, extR, slR, segR, thenR, pnR, Int.reduceToNat, Int.reduceAdd, Int.reduceSub, Int.reduceLT, Int.reduceLE, Nat.reduceSub, Nat.reduceMul, Nat.reduceEqDiff]
  refine none_spec h hn ?_
  simp (disch := first | assumption | omega | (simp only [szR, entC_len, entC_all, ptrs_len, placesL_len] <;> omega) | rfl | decide) only [gen0, gen1, gen2, rulesM, litR, bolR, Nat.reduceAdd, Nat.reduceLeDiff, numR, memR, valR, heapR, updR, intR, decR, extR, slR, segR, thenR, pnR, Int.reduceToNat, Int.reduceAdd, Int.reduceSub, Int.reduceLT, Int.reduceLE, Nat.reduceSub, Nat.reduceMul, Nat.reduceEqDiff, joinBR, hh]
  exact hK
end Go.Proofs.Ytfpcflmgipklcaa
