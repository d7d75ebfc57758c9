/- A bitmap's parts: bits of a word, a set's granules, counted; two sets made one; the part of a span in a page; conditions: those of each theorem. -/
import Derived.Test.YtgnibcaflidjmaaCnt
import Derived.Test.YtgnibcaflidjmaaRange
import Derived.ChangeKeysEq
namespace Go.Proofs.Ytgnibcaflidjmaa
open Go.Fx
set_option maxRecDepth 100000
set_option linter.unusedSimpArgs false
set_option linter.unusedVariables false
theorem shr_nat (a n : Nat) : ((a : Nat) : Int).fdiv (2 ^ n) = ((a / 2 ^ n : Nat) : Int) := by
  rw [Int.fdiv_eq_ediv_of_nonneg _ (Int.le_of_lt (Int.pow_pos (by omega)))]
  simp
theorem and_nat (a : Nat) (b : Nat) (ha : a < 18446744073709551616) (hb : b < 18446744073709551616) : bitI .and .u64 (a : Int) (b : Int) = ((a &&& b : Nat) : Int) := by
  rw [and_u64 (by omega) (by omega)]
  simp
theorem Ones_spec {w : World} {m : Nat} (hm : m < 18446744073709551616) {K : Value → World → Prop} (hK : K (.int .i64 (pcN 64 m : Nat)) w) : callsK Try.prog 66 #[.int .u64 (m : Int)] w K := by
  obtain ⟨y1, y, z, t, e1, e2, e3, e4, l1, l2, l3, e5⟩ := ones_plain m
  have k1 : ∀ a : Nat, a < 18446744073709551616 → bitI .and .u64 (a : Int) 6148914691236517205 = ((a &&& msk 1 32 : Nat) : Int) := fun a ha => and_nat a 6148914691236517205 ha (by decide)
  have k2 : ∀ a : Nat, a < 18446744073709551616 → bitI .and .u64 (a : Int) 3689348814741910323 = ((a &&& msk 2 16 : Nat) : Int) := fun a ha => and_nat a 3689348814741910323 ha (by decide)
  have k3 : bitI .and .u64 ((y / 16 : Nat) + (y : Nat)) 1085102592571150095 = (z : Int) := by
    have : bitI .and .u64 (((y / 16 + y : Nat)) : Int) 1085102592571150095 = ((y / 16 + y &&& msk 4 8 : Nat) : Int) := and_nat (y / 16 + y) 1085102592571150095 (by omega) (by decide)
    rw [e3, Int.natCast_add] at this
    exact this
  have d1 : m / 2 < 18446744073709551616 := by omega
  have d2 : y1 / 4 < 18446744073709551616 := by omega
  have i1 : ((m / 2 &&& msk 1 32 : Nat) : Int) + ((m &&& msk 1 32 : Nat) : Int) = (y1 : Int) := by rw [← Int.natCast_add, e1]
  have i2 : ((y1 / 4 &&& msk 2 16 : Nat) : Int) + ((y1 &&& msk 2 16 : Nat) : Int) = (y : Int) := by rw [← Int.natCast_add, e2]
  have g1 : ((m / 2 ^ 1 : Nat) : Int) = ((m / 2 : Nat) : Int) := rfl
  have g2 : ((y1 / 2 ^ 2 : Nat) : Int) = ((y1 / 4 : Nat) : Int) := rfl
  have g3 : ((y / 2 ^ 4 : Nat) : Int) = ((y / 16 : Nat) : Int) := rfl
  obtain ⟨u, hu⟩ : ∃ u, u = z + z / 256 := ⟨_, rfl⟩
  obtain ⟨v, hv⟩ : ∃ v, v = u + u / 65536 := ⟨_, rfl⟩
  have ht : v + v / 4294967296 = t := by rw [← e4, hv, hu]
  have g4 : (z : Int) + ((z / 2 ^ 8 : Nat) : Int) = (u : Int) := by rw [hu]; rfl
  have g5 : (u : Int) + ((u / 2 ^ 16 : Nat) : Int) = (v : Int) := by rw [hv]; rfl
  have g6 : (v : Int) + ((v / 2 ^ 32 : Nat) : Int) = (t : Int) := by rw [← ht]; rfl
  have lv : v < 9223372036854775808 := by omega
  have lu : u < 9223372036854775808 := by omega
  have lz : z < 9223372036854775808 := by omega
  have k4 : bitI .and .i64 (t : Int) 127 = (pcN 64 m : Nat) := by
    have := and_mask (k := .i64) (a := (t : Int)) (n := 7) (by decide)
    rw [show (((2 ^ 7 - 1 : Nat) : Int)) = 127 from rfl] at this
    rw [this, ← e5]
    rfl
  apply F66_ok
  unfold F66
  simp (disch := first | assumption | omega | (simp only [szR, tgC_len, tgC_all, tsC_len, tsC_all] <;> omega) | rfl | decide) only [gen0, gen1, gen2, rulesM, litR, bolR, Nat.reduceAdd, Nat.reduceLeDiff, numR, memR, valR, heapR, updR, intR, decR, extR, slR, segR, thenR, pnR, Int.reduceToNat, Int.reduceAdd, Int.reduceSub, Int.reduceLT, Int.reduceLE, Nat.reduceSub, Nat.reduceMul, Nat.reduceEqDiff, shr_nat, g1, k1, i1, g2, k2, i2, g3, k3, g4, g5, g6, k4]
  exact hK
theorem cnt_words {f : Nat → Bool} : cnt f (64 * 0) = 0 := rfl
theorem cnt_word (f : Nat → Bool) (k : Nat) : cnt f (64 * (k + 1)) = cnt f (64 * k) + pcN 64 (ofB f k).toNat := by
  rw [Nat.mul_succ, cnt_add, ofB_cnt]
theorem SetCount_spec {w : World} {f : Nat → Bool} {K : Value → World → Prop} (hK : ∀ w', Ext [] w w' → K (.int .i64 (cnt f 256 : Nat)) w') : callsK Try.prog 46 #[.agg (tsC f).toArray] w K := by
  apply F46_ok
  unfold F46
  simp (disch := first | assumption | omega | (simp only [szR, tgC_len, tgC_all, tsC_len, tsC_all] <;> omega) | rfl | decide) only [gen0, gen1, gen2, rulesM, litR, bolR, Nat.reduceAdd, Nat.reduceLeDiff, numR, memR, valR, heapR, updR, intR, decR, extR, slR, segR, thenR, pnR, Int.reduceToNat, Int.reduceAdd, Int.reduceSub, Int.reduceLT, Int.reduceLE, Nat.reduceSub, Nat.reduceMul, Nat.reduceEqDiff, tsC_sub]
  refine loopT.intro (fun st w' => ∃ (k : Nat), k ≤ 4 ∧ st = [.int .i64 (cnt f (64 * k) : Nat), .int .i64 (k : Nat)] ∧ Ext [] w w')
    (fun st _ => match st with
      | [_, .int _ z] => 4 - z.toNat
      | _ => 0) ⟨0, by omega, rfl, by (repeat first | assumption | exact Ext.refl | apply Ext.alloc | apply Ext.drew | (refine Ext.updN ?_ ?_; (focus first | omega | (simp only [szR] <;> omega))) | (refine Ext.updI ?_ ?_; (focus (simp; done))))⟩ ?_
  rintro st w' ⟨k, hk, rfl, hx⟩ _
  by_cases h4 : k < 4
  · have hw := ofB_ok f k
    have hb := cnt_le f (64 * k)
    have hp := pcN_le 64 (ofB f k).toNat
    have hn := cnt_word f k
    obtain ⟨m, hm⟩ : ∃ m : Nat, ofB f k = (m : Int) := ⟨(ofB f k).toNat, by omega⟩
    rw [hm, Int.toNat_natCast] at hp hn
    simp (disch := first | assumption | omega | (simp only [szR, tgC_len, tgC_all, tsC_len, tsC_all] <;> omega) | rfl | decide) only [gen0, gen1, gen2, rulesM, litR, bolR, Nat.reduceAdd, Nat.reduceLeDiff, numR, memR, valR, heapR, updR, intR, decR, extR, slR, segR, thenR, pnR, Int.reduceToNat, Int.reduceAdd, Int.reduceSub, Int.reduceLT, Int.reduceLE, Nat.reduceSub, Nat.reduceMul, Nat.reduceEqDiff, tsC_get, hm]
    refine Ones_spec (by omega) ?_
    simp (disch := first | assumption | omega | (simp only [szR, tgC_len, tgC_all, tsC_len, tsC_all] <;> omega) | rfl | decide) only [gen0, gen1, gen2, rulesM, litR, bolR, Nat.reduceAdd, Nat.reduceLeDiff, numR, memR, valR, heapR, updR, intR, decR, extR, slR, segR, thenR, pnR, Int.reduceToNat, Int.reduceAdd, Int.reduceSub, Int.reduceLT, Int.reduceLE, Nat.reduceSub, Nat.reduceMul, Nat.reduceEqDiff]
    refine ⟨⟨k + 1, by omega, ?_, hx⟩, by first | omega | (simp <;> omega)⟩
    rw [hn]
    rfl
  · obtain rfl : k = 4 := by omega
    simp (disch := first | assumption | omega | (simp only [szR, tgC_len, tgC_all, tsC_len, tsC_all] <;> omega) | rfl | decide) only [gen0, gen1, gen2, rulesM, litR, bolR, Nat.reduceAdd, Nat.reduceLeDiff, numR, memR, valR, heapR, updR, intR, decR, extR, slR, segR, thenR, pnR, Int.reduceToNat, Int.reduceAdd, Int.reduceSub, Int.reduceLT, Int.reduceLE, Nat.reduceSub, Nat.reduceMul, Nat.reduceEqDiff]
    exact hK _ hx
theorem ofB_zero (f : Nat → Bool) (k : Nat) : ofB f k = 0 ↔ ∀ j, j < 64 → f (64 * k + j) = false := by
  have h1 := ofB_cnt f k
  have h2 := ofB_ok f k
  constructor
  · intro h j hj
    have := wordOf_bit f (64 * k) 64 j
    have h3 : wordOf f (64 * k) 64 = 0 := by unfold ofB at h; omega
    rw [h3, decide_eq_true hj, Bool.true_and, Nat.zero_testBit] at this
    exact this.symm
  · intro h
    have h3 : wordOf f (64 * k) 64 = 0 := by
      apply Nat.eq_of_testBit_eq
      intro j
      rw [wordOf_bit, Nat.zero_testBit]
      by_cases hj : j < 64
      · rw [h j hj, Bool.and_false]
      · rw [decide_eq_false hj, Bool.false_and]
    unfold ofB
    rw [h3]
    rfl
theorem any_words (f : Nat → Bool) : anyB f = !((ofB f 0 == 0) && ((ofB f 1 == 0) && ((ofB f 2 == 0) && (ofB f 3 == 0)))) := by
  rw [Bool.eq_iff_iff, anyB_iff]
  simp only [Bool.not_eq_true', Bool.and_eq_false_iff, beq_eq_false_iff_ne, ne_eq, ofB_zero, Classical.not_forall, Bool.not_eq_false]
  constructor
  · rintro ⟨j, hj, hf⟩
    have := Nat.div_add_mod j 64
    rcases (show j / 64 = 0 ∨ j / 64 = 1 ∨ j / 64 = 2 ∨ j / 64 = 3 by omega) with h | h | h | h <;> rw [h] at this
    · exact .inl ⟨j % 64, by omega, by rw [this]; exact hf⟩
    · exact .inr (.inl ⟨j % 64, by omega, by rw [this]; exact hf⟩)
    · exact .inr (.inr (.inl ⟨j % 64, by omega, by rw [this]; exact hf⟩))
    · exact .inr (.inr (.inr ⟨j % 64, by omega, by rw [this]; exact hf⟩))
  · rintro (⟨j, hj, hf⟩ | ⟨j, hj, hf⟩ | ⟨j, hj, hf⟩ | ⟨j, hj, hf⟩)
    · exact ⟨_, by omega, hf⟩
    · exact ⟨_, by omega, hf⟩
    · exact ⟨_, by omega, hf⟩
    · exact ⟨_, by omega, hf⟩
theorem eqItems_cons {P : Program} {d n i : Nat} {e : TypeId} {xs ys : Array Value} {is : List Nat} {a b : Value} {r s : Bool} {w : World} (ha : (part e xs (i * n)).run P w = .ok a w) (hb : (part e ys (i * n)).run P w = .ok b w)
    (he : (Op.equalIn d e a b).run P w = .ok r w) (hr : (Op.eqItems d e n xs ys is).run P w = .ok s w) : (Op.eqItems d e n xs ys (i :: is)).run P w = .ok (r && s) w := by
  simp only [Op.eqItems, Sem.run_bind, ha, hb, he, Result.andThen_ok]
  cases r
  · simp
  · simp [hr]
theorem Any_spec {w : World} {f : Nat → Bool} {K : Value → World → Prop} (hK : ∀ w', Ext [] w w' → K (.bool (anyB f)) w') : callsK Try.prog 64 #[.agg (tsC f).toArray] w K := by
  apply F64_ok
  unfold F64
  have hb : ∀ w, (Instr.build 88 #[]).run Try.prog w = .ok (.agg [.int .u64 0, .int .u64 0, .int .u64 0, .int .u64 0].toArray) w := fun w => run_build w 88 _ _ (by kernel_rfl)
  have hn : ∀ (x y : Operand) (w : World), (binV .neq 88 x y (.agg (tsC f).toArray) (.agg [.int .u64 0, .int .u64 0, .int .u64 0, .int .u64 0].toArray)).run Try.prog w = .ok (.bool (anyB f)) w := by
    intro x y w
    obtain ⟨i, hi⟩ : ∃ i, Try.prog.info? 28 = some i := Option.isSome_iff_exists.1 (by kernel_rfl)
    have hc : Try.prog.cellsOf 28 = 1 := by kernel_rfl
    have q : ∀ a k : Int, (Op.equalIn 9999 28 (.int .u64 a) (.int .u64 k)).run Try.prog w = .ok (a == k) w := fun a k => run_equalIn_int _ 9998 28 .u64 .u64 _ _ Try.underlying28
    have p0 : ∀ (vs : List Value) (k : Nat) (v : Value), vs[k]? = some v → (part 28 vs.toArray (k * 1)).run Try.prog w = .ok v w := fun vs k v h => by rw [Nat.mul_one]; exact Fx.part1 Try.isAgg28 (by simpa using h)
    have he : (Op.equalIn (9999 + 1) 88 (.agg (tsC f).toArray) (.agg [.int .u64 0, .int .u64 0, .int .u64 0, .int .u64 0].toArray)).run Try.prog w = .ok (!anyB f) w := by
      rw [run_equalIn_array w 9999 _ _ Try.underlying88 hi, hc]
      have ht : tsC f = [.int .u64 (ofB f 0), .int .u64 (ofB f 1), .int .u64 (ofB f 2), .int .u64 (ofB f 3)] := rfl
      rw [ht]
      have e : List.range 4 = [0, 1, 2, 3] := rfl
      rw [e]
      have a0 := fun k => p0 [.int .u64 (ofB f 0), .int .u64 (ofB f 1), .int .u64 (ofB f 2), .int .u64 (ofB f 3)] k
      have z0 := fun k => p0 [.int .u64 0, .int .u64 0, .int .u64 0, .int .u64 0] k
      rw [any_words f, Bool.not_not]
      have hend : (Op.eqItems 9999 28 1 [.int .u64 (ofB f 0), .int .u64 (ofB f 1), .int .u64 (ofB f 2), .int .u64 (ofB f 3)].toArray [.int .u64 0, .int .u64 0, .int .u64 0, .int .u64 0].toArray []).run Try.prog w = .ok true w := by simp [Op.eqItems]
      have := eqItems_cons (a0 0 _ rfl) (z0 0 _ rfl) (q _ _) (eqItems_cons (a0 1 _ rfl) (z0 1 _ rfl) (q _ _) (eqItems_cons (a0 2 _ rfl) (z0 2 _ rfl) (q _ _) (eqItems_cons (a0 3 _ rfl) (z0 3 _ rfl) (q _ _) hend)))
      rw [Bool.and_true] at this
      exact this
    have := Fx.neq_agg (t := 88) (by kernel_rfl) _ _ _ x y w he
    rw [Bool.not_not] at this
    exact this
  simp (disch := first | assumption | omega | (simp only [szR, tgC_len, tgC_all, tsC_len, tsC_all] <;> omega) | rfl | decide) only [gen0, gen1, gen2, rulesM, litR, bolR, Nat.reduceAdd, Nat.reduceLeDiff, numR, memR, valR, heapR, updR, intR, decR, extR, slR, segR, thenR, pnR, Int.reduceToNat, Int.reduceAdd, Int.reduceSub, Int.reduceLT, Int.reduceLE, Nat.reduceSub, Nat.reduceMul, Nat.reduceEqDiff, tsC_sub, hb, hn]
  exact hK _ (by (repeat first | assumption | exact Ext.refl | apply Ext.alloc | apply Ext.drew | (refine Ext.updN ?_ ?_; (focus first | omega | (simp only [szR] <;> omega))) | (refine Ext.updI ?_ ?_; (focus (simp; done)))))
theorem Or_spec {w : World} {f g : Nat → Bool} {K : Value → World → Prop} (hK : ∀ w', Ext [] w w' → K (.agg (tsC fun j => f j || g j).toArray) w') : callsK Try.prog 42 #[.agg (tsC f).toArray, .agg (tsC g).toArray] w K := by
  apply F42_ok
  unfold F42
  simp (disch := first | assumption | omega | (simp only [szR, tgC_len, tgC_all, tsC_len, tsC_all] <;> omega) | rfl | decide) only [gen0, gen1, gen2, rulesM, litR, bolR, Nat.reduceAdd, Nat.reduceLeDiff, numR, memR, valR, heapR, updR, intR, decR, extR, slR, segR, thenR, pnR, Int.reduceToNat, Int.reduceAdd, Int.reduceSub, Int.reduceLT, Int.reduceLE, Nat.reduceSub, Nat.reduceMul, Nat.reduceEqDiff]
  refine loopT.intro (fun st w' => ∃ (k : Nat) (z : Int) (g' : Nat → Int), k ≤ 4 ∧ st = [.int .i64 z] ∧ z = k ∧ w'.heap[w.heap.size]? = some (.cells (tgC g').toArray 88 (0, 0)) ∧ w'.heap[w.heap.size + 1]? = some (.cells (tsC g).toArray 88 (0, 0)) ∧ w'.heap[w.heap.size + 1 + 1]? = some (.cells (tgC fun _ => 0).toArray 88 (0, 0)) ∧ Wok g' ∧ (∀ j, j < 256 → bit g' j = if j / 64 < k then (f j || g j) else f j) ∧ Ext [] w w')
    (fun st _ => match st with
      | [.int _ z] => 4 - z.toNat
      | _ => 0) ⟨0, 0, ofB f, by omega, rfl, rfl, by simp (disch := first | assumption | omega | (simp only [szR, tgC_len, tgC_all, tsC_len, tsC_all] <;> omega) | rfl | decide) only [gen0, gen1, gen2, rulesM, litR, bolR, Nat.reduceAdd, Nat.reduceLeDiff, numR, memR, valR, heapR, updR, intR, decR, extR, slR, segR, thenR, pnR, Int.reduceToNat, Int.reduceAdd, Int.reduceSub, Int.reduceLT, Int.reduceLE, Nat.reduceSub, Nat.reduceMul, Nat.reduceEqDiff]; rfl, by simp (disch := first | assumption | omega | (simp only [szR, tgC_len, tgC_all, tsC_len, tsC_all] <;> omega) | rfl | decide) only [gen0, gen1, gen2, rulesM, litR, bolR, Nat.reduceAdd, Nat.reduceLeDiff, numR, memR, valR, heapR, updR, intR, decR, extR, slR, segR, thenR, pnR, Int.reduceToNat, Int.reduceAdd, Int.reduceSub, Int.reduceLT, Int.reduceLE, Nat.reduceSub, Nat.reduceMul, Nat.reduceEqDiff], by simp (disch := first | assumption | omega | (simp only [szR, tgC_len, tgC_all, tsC_len, tsC_all] <;> omega) | rfl | decide) only [gen0, gen1, gen2, rulesM, litR, bolR, Nat.reduceAdd, Nat.reduceLeDiff, numR, memR, valR, heapR, updR, intR, decR, extR, slR, segR, thenR, pnR, Int.reduceToNat, Int.reduceAdd, Int.reduceSub, Int.reduceLT, Int.reduceLE, Nat.reduceSub, Nat.reduceMul, Nat.reduceEqDiff]; rfl, ofB_ok f, fun j _ => by simp [bit_ofB], by (repeat first | assumption | exact Ext.refl | apply Ext.alloc | apply Ext.drew | (refine Ext.updN ?_ ?_; (focus first | omega | (simp only [szR] <;> omega))) | (refine Ext.updI ?_ ?_; (focus (simp; done))))⟩ ?_
  rintro st w' ⟨k, z, g', hk, rfl, rfl, h1, h2, h3, hg', hb, hx⟩ _
  have l1 := lt_of_at h1
  have l2 := lt_of_at h2
  have l3 := lt_of_at h3
  by_cases h4 : k < 4
  · have hw1 := hg' k
    have hw2 := ofB_ok g k
    have hor := or_u64 hw1 hw2
    have hlt := or_lt (a := (g' k).toNat) (b := (ofB g k).toNat) (by omega) (by omega)
    simp (disch := first | assumption | omega | (simp only [szR, tgC_len, tgC_all, tsC_len, tsC_all] <;> omega) | rfl | decide) only [gen0, gen1, gen2, rulesM, litR, bolR, Nat.reduceAdd, Nat.reduceLeDiff, numR, memR, valR, heapR, updR, intR, decR, extR, slR, segR, thenR, pnR, Int.reduceToNat, Int.reduceAdd, Int.reduceSub, Int.reduceLT, Int.reduceLE, Nat.reduceSub, Nat.reduceMul, Nat.reduceEqDiff, h1, h2, tgC_get, tsC_get, tgC_set, hor]
    refine ⟨⟨k + 1, _, wset g' k (((g' k).toNat ||| (ofB g k).toNat : Nat) : Int), by omega, rfl, by omega, by simp (disch := first | assumption | omega | (simp only [szR, tgC_len, tgC_all, tsC_len, tsC_all] <;> omega) | rfl | decide) only [gen0, gen1, gen2, rulesM, litR, bolR, Nat.reduceAdd, Nat.reduceLeDiff, numR, memR, valR, heapR, updR, intR, decR, extR, slR, segR, thenR, pnR, Int.reduceToNat, Int.reduceAdd, Int.reduceSub, Int.reduceLT, Int.reduceLE, Nat.reduceSub, Nat.reduceMul, Nat.reduceEqDiff, h1, tgC_set], by simp (disch := first | assumption | omega | (simp only [szR, tgC_len, tgC_all, tsC_len, tsC_all] <;> omega) | rfl | decide) only [gen0, gen1, gen2, rulesM, litR, bolR, Nat.reduceAdd, Nat.reduceLeDiff, numR, memR, valR, heapR, updR, intR, decR, extR, slR, segR, thenR, pnR, Int.reduceToNat, Int.reduceAdd, Int.reduceSub, Int.reduceLT, Int.reduceLE, Nat.reduceSub, Nat.reduceMul, Nat.reduceEqDiff, h2], by simp (disch := first | assumption | omega | (simp only [szR, tgC_len, tgC_all, tsC_len, tsC_all] <;> omega) | rfl | decide) only [gen0, gen1, gen2, rulesM, litR, bolR, Nat.reduceAdd, Nat.reduceLeDiff, numR, memR, valR, heapR, updR, intR, decR, extR, slR, segR, thenR, pnR, Int.reduceToNat, Int.reduceAdd, Int.reduceSub, Int.reduceLT, Int.reduceLE, Nat.reduceSub, Nat.reduceMul, Nat.reduceEqDiff, h3], hg'.wset (by omega), fun j hj => ?_, by (repeat first | assumption | exact Ext.refl | apply Ext.alloc | apply Ext.drew | (refine Ext.updN ?_ ?_; (focus first | omega | (simp only [szR] <;> omega))) | (refine Ext.updI ?_ ?_; (focus (simp; done))))⟩, by first | omega | (simp <;> omega)⟩
    by_cases hjk : j / 64 = k
    · have e1 := hb j hj
      have e2 := bit_ofB g j
      rw [if_neg (by omega)] at e1
      rw [if_pos (by omega)]
      unfold bit at e1 e2 ⊢
      unfold wset
      rw [if_pos hjk, Int.toNat_natCast, Nat.testBit_or, ← e1, ← e2, hjk]
    · have e1 := hb j hj
      have e2 : bit (wset g' k (((g' k).toNat ||| (ofB g k).toNat : Nat) : Int)) j = bit g' j := by
        unfold bit wset
        rw [if_neg hjk]
      rw [e2, e1]
      by_cases hjl : j / 64 < k
      · rw [if_pos hjl, if_pos (by omega)]
      · rw [if_neg hjl, if_neg (by omega)]
  · obtain rfl : k = 4 := by omega
    simp (disch := first | assumption | omega | (simp only [szR, tgC_len, tgC_all, tsC_len, tsC_all] <;> omega) | rfl | decide) only [gen0, gen1, gen2, rulesM, litR, bolR, Nat.reduceAdd, Nat.reduceLeDiff, numR, memR, valR, heapR, updR, intR, decR, extR, slR, segR, thenR, pnR, Int.reduceToNat, Int.reduceAdd, Int.reduceSub, Int.reduceLT, Int.reduceLE, Nat.reduceSub, Nat.reduceMul, Nat.reduceEqDiff, h1, h3, tgC_sub, tgC_over, tgC_over2]
    have he : tgC g' = tsC fun j => f j || g j := tsC_of hg' fun j hj => by rw [hb j hj, if_pos (by omega)]
    rw [he]
    exact hK _ (by (repeat first | assumption | exact Ext.refl | apply Ext.alloc | apply Ext.drew | (refine Ext.updN ?_ ?_; (focus first | omega | (simp only [szR] <;> omega))) | (refine Ext.updI ?_ ?_; (focus (simp; done)))))
theorem Less_spec {w : World} {f g : Nat → Bool} {K : Value → World → Prop} (hK : ∀ w', Ext [] w w' → K (.agg (tsC fun j => f j && !g j).toArray) w') : callsK Try.prog 43 #[.agg (tsC f).toArray, .agg (tsC g).toArray] w K := by
  refine Without_spec (ofB_ok f) (ofB_ok g) fun g' w' h1 h2 h3 => ?_
  have he : tgC g' = tsC fun j => f j && !g j := tsC_of h1 fun j hj => by rw [h2 j hj, bit_ofB, bit_ofB]
  rw [he]
  exact hK _ h3
end Go.Proofs.Ytgnibcaflidjmaa
