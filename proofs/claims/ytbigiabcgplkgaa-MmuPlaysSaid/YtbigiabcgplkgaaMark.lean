/- The entry behind an access is laid where it is; conditions: those of each theorem. -/
import Derived.Test.YtbigiabcgplkgaaApart
namespace Go.Proofs.Ytbigiabcgplkgaa
open Go.Fx
set_option maxRecDepth 100000
set_option linter.unusedSimpArgs false
set_option linter.unusedVariables false
set_option maxHeartbeats 4000000 in
theorem Mark_spec2 {w : World} {r q a n : Nat} {F : Nat → Bool} {k : Int} {t : Bool} {m g : Nat → Int} (h : Mem w r q 8 m g) (ha : a < 8 * 4096) (h8 : a % 8 = 0) (hn : n < 18446744073709551616) {K : Value → World → Prop}
    (hK : ∀ w' m' g', Mem w' r q 8 m' g' → (m' = m ∧ eqE (markA F k t) n F n = true ∨ m' = stored m a 8 (wd (markA F k t) n : Nat) ∧ eqE (markA F k t) n F n = false) → Ext [q] w w' → K (.agg (fdC (markA F k t) n a).toArray) w') :
    callsK Try.prog 26 #[.pointer (some ⟨r, 0, none⟩), .agg (fdC F n a).toArray, .int .i64 k, .bool t] w K := by
  have hql := h.lt
  have hsf : ∀ f n a, splice [Value.bool false, .bool false, .bool false, .bool false, .bool false, .bool false, .bool false, .bool false, .bool false, .bool false, .bool false, .bool false, .int .u64 0, .int .u64 0] 0 (fdC f n a) = fdC f n a := fun f n a => splice_over (by rw [fdC_len]; rfl)
  have hse : ∀ f n, splice [Value.bool false, .bool false, .bool false, .bool false, .bool false, .bool false, .bool false, .bool false, .bool false, .bool false, .bool false, .bool false, .int .u64 0] 0 (entC f n) = entC f n := fun f n => splice_over (by rw [entC_len]; rfl)
  apply F26_ok
  unfold F26
  simp (disch := first | assumption | omega | (simp only [szR, entC_len, entC_all, fdC_len, fdC_all] <;> omega) | rfl | decide) only [gen0, gen1, gen2, rulesM, litR, bolR, Nat.reduceAdd, Nat.reduceLeDiff, numR, memR, valR, heapR, updR, intR, decR, extR, slR, segR, thenR, pnR, Int.reduceToNat, Int.reduceAdd, Int.reduceSub, Int.reduceLT, Int.reduceLE, Nat.reduceSub, Nat.reduceMul, Nat.reduceEqDiff, fdC_sub13]
  refine Marked_spec fun w1 hx1 => ?_
  have hs1 := hx1.size
  simp only [szR] at hs1
  have hk1 := kept0 hx1
  have hc5 : w1.heap[w.heap.size]? = some (.cells (fdC F n a).toArray 34 (0, 0)) := (by first | with_reducible rfl | assumption | (simp (disch := first | assumption | omega | (simp only [szR, entC_len, entC_all, fdC_len, fdC_all] <;> omega) | rfl | decide) only [gen0, gen1, gen2, rulesM, litR, bolR, Nat.reduceAdd, Nat.reduceLeDiff, numR, memR, valR, heapR, updR, intR, decR, extR, slR, segR, thenR, pnR, Int.reduceToNat, Int.reduceAdd, Int.reduceSub, Int.reduceLT, Int.reduceLE, Nat.reduceSub, Nat.reduceMul, Nat.reduceEqDiff, hk1] <;> rfl))
  have hc8 : w1.heap[w.heap.size + 1]? = some (.cells [.bool false, .bool false, .bool false, .bool false, .bool false, .bool false, .bool false, .bool false, .bool false, .bool false, .bool false, .bool false, .int .u64 0, .int .u64 0].toArray 34 (0, 0)) := (by first | with_reducible rfl | assumption | (simp (disch := first | assumption | omega | (simp only [szR, entC_len, entC_all, fdC_len, fdC_all] <;> omega) | rfl | decide) only [gen0, gen1, gen2, rulesM, litR, bolR, Nat.reduceAdd, Nat.reduceLeDiff, numR, memR, valR, heapR, updR, intR, decR, extR, slR, segR, thenR, pnR, Int.reduceToNat, Int.reduceAdd, Int.reduceSub, Int.reduceLT, Int.reduceLE, Nat.reduceSub, Nat.reduceMul, Nat.reduceEqDiff, hk1] <;> rfl))
  have hxw1 : Ext [] w w1 := Ext.trans (S := []) (by (repeat first | assumption | exact Ext.refl | apply Ext.alloc | apply Ext.drew | (refine Ext.updN ?_ ?_; (focus first | omega | (simp only [szR] <;> omega))) | (refine Ext.updI ?_ ?_; (focus (simp; done))))) hx1 (by simp)
  have hm1 := h.ext hxw1 (by simp) (by simp)
  simp (disch := first | assumption | omega | (simp only [szR, entC_len, entC_all, fdC_len, fdC_all] <;> omega) | rfl | decide) only [gen0, gen1, gen2, rulesM, litR, bolR, Nat.reduceAdd, Nat.reduceLeDiff, numR, memR, valR, heapR, updR, intR, decR, extR, slR, segR, thenR, pnR, Int.reduceToNat, Int.reduceAdd, Int.reduceSub, Int.reduceLT, Int.reduceLE, Nat.reduceSub, Nat.reduceMul, Nat.reduceEqDiff, hse]
  refine joinL.intro fun J0 hJ0 => ?_
  have hJ : ∀ w' m' g', w'.heap[w.heap.size]? = some (.cells (fdC F n a).toArray 34 (0, 0)) → w'.heap[w.heap.size + 1]? = some (.cells [.bool false, .bool false, .bool false, .bool false, .bool false, .bool false, .bool false, .bool false, .bool false, .bool false, .bool false, .bool false, .int .u64 0, .int .u64 0].toArray 34 (0, 0)) →
      w'.heap[w1.heap.size]? = some (.cells (entC (markA F k t) n).toArray 32 (0, 0)) → Mem w' r q 8 m' g' → (m' = m ∧ eqE (markA F k t) n F n = true ∨ m' = stored m a 8 (wd (markA F k t) n : Nat) ∧ eqE (markA F k t) n F n = false) → Ext [q] w w' → J0 [] w' := by
    intro w' m' g' d5 d8 d9 hm hc hx
    have l5 := lt_of_at d5
    have l8 := lt_of_at d8
    apply hJ0
    intro _
    simp (disch := first | assumption | omega | (simp only [szR, entC_len, entC_all, fdC_len, fdC_all] <;> omega) | rfl | decide) only [gen0, gen1, gen2, rulesM, litR, bolR, Nat.reduceAdd, Nat.reduceLeDiff, numR, memR, valR, heapR, updR, intR, decR, extR, slR, segR, thenR, pnR, Int.reduceToNat, Int.reduceAdd, Int.reduceSub, Int.reduceLT, Int.reduceLE, Nat.reduceSub, Nat.reduceMul, Nat.reduceEqDiff, d5, d8, d9, entC_sub, fdC_at, blF, hsf, fdC_sub]
    refine hK _ m' g' (hm.ext (S := [w.heap.size + 1]) (by (repeat first | assumption | exact Ext.refl | apply Ext.alloc | apply Ext.drew | (refine Ext.updN ?_ ?_; (focus first | omega | (simp only [szR] <;> omega))) | (refine Ext.updI ?_ ?_; (focus (simp; done))))) (by simp <;> omega) (by simp <;> omega)) hc (by (repeat first | assumption | exact Ext.refl | apply Ext.alloc | apply Ext.drew | (refine Ext.updN ?_ ?_; (focus first | omega | (simp only [szR] <;> omega))) | (refine Ext.updI ?_ ?_; (focus (simp; done)))))
  clear hJ0 hK
  cases he : eqE (markA F k t) n F n
  · simp (disch := first | assumption | omega | (simp only [szR, entC_len, entC_all, fdC_len, fdC_all] <;> omega) | rfl | decide) only [gen0, gen1, gen2, rulesM, litR, bolR, Nat.reduceAdd, Nat.reduceLeDiff, numR, memR, valR, heapR, updR, intR, decR, extR, slR, segR, thenR, pnR, Int.reduceToNat, Int.reduceAdd, Int.reduceSub, Int.reduceLT, Int.reduceLE, Nat.reduceSub, Nat.reduceMul, Nat.reduceEqDiff, hc5, fdC_sub13, fdC_at, entC_sub, neqE, he]
    repeat' (with_reducible apply And.intro)
    all_goals
      refine Word_spec hn fun w2 hx2 => ?_
      have hs2 := hx2.size
      simp only [szR] at hs2
      have hk2 := kept0 hx2
      have hx12 : Ext [] w1 w2 := Ext.trans (S := []) (by (repeat first | assumption | exact Ext.refl | apply Ext.alloc | apply Ext.drew | (refine Ext.updN ?_ ?_; (focus first | omega | (simp only [szR] <;> omega))) | (refine Ext.updI ?_ ?_; (focus (simp; done))))) hx2 (by simp)
      have d5 := hx12.at hc5 (by simp)
      have d8 := hx12.at hc8 (by simp)
      have d9 : w2.heap[w1.heap.size]? = some (.cells (entC (markA F k t) n).toArray 32 (0, 0)) := (by first | with_reducible rfl | assumption | (simp (disch := first | assumption | omega | (simp only [szR, entC_len, entC_all, fdC_len, fdC_all] <;> omega) | rfl | decide) only [gen0, gen1, gen2, rulesM, litR, bolR, Nat.reduceAdd, Nat.reduceLeDiff, numR, memR, valR, heapR, updR, intR, decR, extR, slR, segR, thenR, pnR, Int.reduceToNat, Int.reduceAdd, Int.reduceSub, Int.reduceLT, Int.reduceLE, Nat.reduceSub, Nat.reduceMul, Nat.reduceEqDiff, hk2, hse] <;> rfl))
      have hwl := wd_lt (markA F k t) n
      try simp (disch := first | assumption | omega | (simp only [szR, entC_len, entC_all, fdC_len, fdC_all] <;> omega) | rfl | decide) only [gen0, gen1, gen2, rulesM, litR, bolR, Nat.reduceAdd, Nat.reduceLeDiff, numR, memR, valR, heapR, updR, intR, decR, extR, slR, segR, thenR, pnR, Int.reduceToNat, Int.reduceAdd, Int.reduceSub, Int.reduceLT, Int.reduceLE, Nat.reduceSub, Nat.reduceMul, Nat.reduceEqDiff, d5, fdC_at]
      refine Store_spec (a := a) (v := (wd (markA F k t) n : Nat)) ((hm1.ext hx12 (by simp) (by simp)).ext (S := []) (by (repeat first | assumption | exact Ext.refl | apply Ext.alloc | apply Ext.drew | (refine Ext.updN ?_ ?_; (focus first | omega | (simp only [szR] <;> omega))) | (refine Ext.updI ?_ ?_; (focus (simp; done))))) (by simp) (by simp)) (by omega) (by omega) (.inr (.inr (.inr rfl))) h8 ⟨by omega, by omega⟩ fun g3 w3 hm3 _ hx3 => ?_
      have hx23 : Ext [q] w2 w3 := Ext.trans (by (repeat first | assumption | exact Ext.refl | apply Ext.alloc | apply Ext.drew | (refine Ext.updN ?_ ?_; (focus first | omega | (simp only [szR] <;> omega))) | (refine Ext.updI ?_ ?_; (focus (simp; done))))) hx3 (by simp)
      have e5 := hx23.at d5 (by simp <;> omega)
      have e8 := hx23.at d8 (by simp <;> omega)
      have e9 := hx23.at d9 (by simp <;> omega)
      have hxw3 : Ext [q] w w3 := ((hxw1.trans hx12 (by simp)).mono (by simp)).trans hx23 (by simp)
      exact hJ _ _ g3 e5 e8 e9 hm3 (.inr ⟨rfl, he⟩) hxw3
  · simp (disch := first | assumption | omega | (simp only [szR, entC_len, entC_all, fdC_len, fdC_all] <;> omega) | rfl | decide) only [gen0, gen1, gen2, rulesM, litR, bolR, Nat.reduceAdd, Nat.reduceLeDiff, numR, memR, valR, heapR, updR, intR, decR, extR, slR, segR, thenR, pnR, Int.reduceToNat, Int.reduceAdd, Int.reduceSub, Int.reduceLT, Int.reduceLE, Nat.reduceSub, Nat.reduceMul, Nat.reduceEqDiff, hc5, fdC_sub13, fdC_at, entC_sub, neqE, he]
    have hx11 : Ext [] w1 (w1.alloc (.cells (entC (markA F k t) n).toArray 32)) := by (repeat first | assumption | exact Ext.refl | apply Ext.alloc | apply Ext.drew | (refine Ext.updN ?_ ?_; (focus first | omega | (simp only [szR] <;> omega))) | (refine Ext.updI ?_ ?_; (focus (simp; done))))
    refine hJ _ m g (by first | with_reducible rfl | assumption | (simp (disch := first | assumption | omega | (simp only [szR, entC_len, entC_all, fdC_len, fdC_all] <;> omega) | rfl | decide) only [gen0, gen1, gen2, rulesM, litR, bolR, Nat.reduceAdd, Nat.reduceLeDiff, numR, memR, valR, heapR, updR, intR, decR, extR, slR, segR, thenR, pnR, Int.reduceToNat, Int.reduceAdd, Int.reduceSub, Int.reduceLT, Int.reduceLE, Nat.reduceSub, Nat.reduceMul, Nat.reduceEqDiff, hc5] <;> rfl)) (by first | with_reducible rfl | assumption | (simp (disch := first | assumption | omega | (simp only [szR, entC_len, entC_all, fdC_len, fdC_all] <;> omega) | rfl | decide) only [gen0, gen1, gen2, rulesM, litR, bolR, Nat.reduceAdd, Nat.reduceLeDiff, numR, memR, valR, heapR, updR, intR, decR, extR, slR, segR, thenR, pnR, Int.reduceToNat, Int.reduceAdd, Int.reduceSub, Int.reduceLT, Int.reduceLE, Nat.reduceSub, Nat.reduceMul, Nat.reduceEqDiff, hc8] <;> rfl)) (by first | with_reducible rfl | assumption | (simp (disch := first | assumption | omega | (simp only [szR, entC_len, entC_all, fdC_len, fdC_all] <;> omega) | rfl | decide) only [gen0, gen1, gen2, rulesM, litR, bolR, Nat.reduceAdd, Nat.reduceLeDiff, numR, memR, valR, heapR, updR, intR, decR, extR, slR, segR, thenR, pnR, Int.reduceToNat, Int.reduceAdd, Int.reduceSub, Int.reduceLT, Int.reduceLE, Nat.reduceSub, Nat.reduceMul, Nat.reduceEqDiff] <;> rfl)) (hm1.ext hx11 (by simp) (by simp)) (.inl ⟨rfl, he⟩) ((hxw1.trans hx11 (by simp)).mono (by simp))
theorem Mark_spec {w : World} {r q a n : Nat} {F : Nat → Bool} {k : Int} {t : Bool} {m g : Nat → Int} (h : Mem w r q 8 m g) (ha : a < 8 * 4096) (h8 : a % 8 = 0) (hn : n < 18446744073709551616) {K : Value → World → Prop}
    (hK : ∀ w' m' g', Mem w' r q 8 m' g' → (m' = m ∧ eqE (markA F k t) n F n = true ∨ m' = stored m a 8 (wd (markA F k t) n : Nat)) → Ext [q] w w' → K (.agg (fdC (markA F k t) n a).toArray) w') :
    callsK Try.prog 26 #[.pointer (some ⟨r, 0, none⟩), .agg (fdC F n a).toArray, .int .i64 k, .bool t] w K :=
  Mark_spec2 h ha h8 hn fun w1 m1 g1 x1 x2 x3 => hK w1 m1 g1 x1 (x2.imp id And.left) x3
/-! ### plain -/
theorem wk_at {M : Nat → Nat} {n va : Nat} : ∀ {k fr0 x a : Nat}, wk M n va k fr0 = some (x, a) → M a = x ∧ bad x 0 n = false ∧ a % 8 = 0 ∧ a < n * 4096
  | 0, fr0, x, a, h => by simp [wk] at h
  | k + 1, fr0, x, a, h => by
    unfold wk at h
    split at h
    · cases h
    · split at h
      · cases h
      · rename_i h1 h2
        split at h
        · rename_i h3
          subst h3
          simp only [Option.some.injEq, Prod.mk.injEq] at h
          obtain ⟨rfl, rfl⟩ := h
          have := idx_lt va 0
          exact ⟨rfl, by simpa using h2, by omega, by omega⟩
        · exact wk_at h
theorem bad_leaf0 {x n : Nat} (h : bad x 0 n = false) : leaf (fl x) = true ∧ right (fl x) (fr x) = true ∧ fr x < n := by
  unfold bad at h
  simp only [Bool.or_eq_false_iff, decide_true, bne_eq_false_iff_eq, decide_eq_false_iff_not, Bool.not_eq_false'] at h
  exact ⟨h.1.2, h.1.1.2, by omega⟩
/-- the last word of a walk laid anew. -/
theorem wk_set {M : Nat → Nat} {n va v : Nat} (hv : bad v 0 n = false) : ∀ {k fr0 x a : Nat}, wk M n va k fr0 = some (x, a) → wk (setW M a v) n va k fr0 = some (v, a)
  | 0, fr0, x, a, h => by simp [wk] at h
  | k + 1, fr0, x, a, h => by
    have hat := wk_at h
    obtain ⟨hl, -, -⟩ := bad_leaf0 hat.2.1
    unfold wk at h
    split at h
    · cases h
    rename_i h1
    split at h
    · cases h
    rename_i h2
    split at h
    · rename_i h3
      subst h3
      simp only [Option.some.injEq, Prod.mk.injEq] at h
      obtain ⟨rfl, rfl⟩ := h
      exact wk_end (by omega) (by unfold setW; rw [if_pos rfl]) hv
    · rename_i h3
      have hne : fr0 * 4096 + idx va k * 8 ≠ a := by
        intro he
        rw [he, hat.1] at h2
        have : leaf (fl x) = false := by
          unfold bad at h2
          rw [decide_eq_false h3] at h2
          simp only [Bool.or_eq_true, not_or, Bool.not_eq_true, bne_eq_false_iff_eq] at h2
          exact h2.1.2
        rw [this] at hl
        cases hl
      have hx : setW M a v (fr0 * 4096 + idx va k * 8) = M (fr0 * 4096 + idx va k * 8) := by unfold setW; rw [if_neg hne]
      rw [wk_go (x := M (fr0 * 4096 + idx va k * 8)) (by omega) hx (by simpa using h2) h3]
      exact wk_set hv h
theorem walkA_set {M : Nat → Nat} {n root va x a v : Nat} (hv : bad v 0 n = false) (h : walkA M n root va = some (x, a)) : walkA (setW M a v) n root va = some (v, a) := by
  unfold walkA at h ⊢
  split at h
  · rename_i hc
    rw [if_pos hc]
    exact wk_set hv h
  · cases h
theorem walkA_at {M : Nat → Nat} {n root va x a : Nat} (h : walkA M n root va = some (x, a)) : M a = x ∧ bad x 0 n = false ∧ a % 8 = 0 ∧ a < n * 4096 := by
  unfold walkA at h
  split at h
  · exact wk_at h
  · cases h
theorem mark_keep (f : Nat → Bool) (k : Int) (t : Bool) : markA f k t 0 = f 0 ∧ markA f k t 1 = f 1 ∧ markA f k t 2 = f 2 ∧ markA f k t 3 = f 3 ∧ markA f k t 4 = f 4 ∧ markA f k t 8 = f 8 ∧ markA f k t 9 = f 9 ∧ markA f k t 11 = f 11 := ⟨rfl, rfl, rfl, rfl, rfl, rfl, rfl, rfl⟩
theorem mark_leaf (f : Nat → Bool) (k : Int) (t : Bool) : leaf (markA f k t) = leaf f := rfl
theorem mark_right {f : Nat → Bool} {n : Nat} (k : Int) (t : Bool) (hl : leaf f = true) : right (markA f k t) n = right f n := by
  obtain ⟨e0, e1, e2, e3, e4, e8, e9, e11⟩ := mark_keep f k t
  unfold right
  rw [mark_leaf, hl, e0, e1, e2, e8, e9]
  simp
theorem mark_check (f : Nat → Bool) (k : Int) (t g : Bool) : checkA (markA f k t) k t g = checkA f k t g := by
  obtain ⟨e0, e1, e2, e3, e4, e8, e9, e11⟩ := mark_keep f k t
  have hl : letsA (markA f k t) k = letsA f k := by unfold letsA; rw [e1, e2, e3]
  unfold checkA
  rw [mark_leaf, hl, e4, e8, e9, e11]
theorem mark_mark (f : Nat → Bool) (k : Int) (t : Bool) : ∀ j, j < 12 → markA (markA f k t) k t j = markA f k t j := by
  intro j hj
  unfold markA
  by_cases h6 : j = 6
  · subst h6; simp
  by_cases h7 : j = 7
  · subst h7; simp
  by_cases h10 : j = 10
  · subst h10; simp
  simp [h6, h7, h10]
theorem mark_back (f : Nat → Bool) (k : Int) (t : Bool) : ∀ j, j < 12 → upd1 (upd1 (upd1 (markA f k t) 6 (f 6)) 7 (f 7)) 10 (f 10) j = f j := by
  intro j hj
  unfold upd1 markA
  by_cases h6 : j = 6
  · subst h6; simp
  by_cases h7 : j = 7
  · subst h7; simp
  by_cases h10 : j = 10
  · subst h10; simp
  simp [h6, h7, h10]
theorem bad_mark {x n : Nat} (k : Int) (t : Bool) (h : bad x 0 n = false) : bad (wd (markA (fl x) k t) (fr x)) 0 n = false := by
  obtain ⟨h1, h2, h3⟩ := bad_leaf0 h
  have h4 := fr_lt x
  have h0 : markA (fl x) k t 0 = true := by
    show fl x 0 = true
    unfold leaf at h1
    simp only [Bool.and_eq_true] at h1
    exact h1.1
  rw [bad_wd, Nat.mod_eq_of_lt h4, mark_leaf, mark_right k t h1, h1, h2, h0, decide_eq_false (by omega : ¬ n ≤ fr x)]
  rfl
end Go.Proofs.Ytbigiabcgplkgaa
