/- Sets of granules (tags): four words of bits, and what is done with them; conditions: those of each theorem. -/
import Derived.Test.YtgnibcaflidjmaaFM
import Derived.Test.YtgnibcaflidjmaaRM
import Derived.Test.YtgnibcaflidjmaaBits
namespace Go.Proofs.Ytgnibcaflidjmaa
open Go.Fx
set_option maxRecDepth 100000
set_option linter.unusedSimpArgs false
set_option linter.unusedVariables false
def tgC (g : Nat → Int) : List Value := [.int .u64 (g 0), .int .u64 (g 1), .int .u64 (g 2), .int .u64 (g 3)]
def Wok (g : Nat → Int) : Prop := ∀ k, 0 ≤ g k ∧ g k < 18446744073709551616
def bit (g : Nat → Int) (i : Nat) : Bool := (g (i / 64)).toNat.testBit (i % 64)
def wset (g : Nat → Int) (k : Nat) (v : Int) : Nat → Int := fun j => if j = k then v else g j
theorem Wok.wset {g : Nat → Int} (h : Wok g) {k : Nat} {v : Int} (hv : 0 ≤ v ∧ v < 18446744073709551616) : Wok (wset g k v) := by
  intro j
  unfold Ytgnibcaflidjmaa.wset
  split
  · exact hv
  · exact h j
theorem Wok.zero : Wok (fun _ => 0) := fun _ => ⟨Int.le_refl 0, (by decide : (0 : Int) < 18446744073709551616)⟩
theorem bit_zero (i : Nat) : bit (fun _ => 0) i = false := by simp [bit]
theorem tgC_len (g : Nat → Int) : (tgC g).length = 4 := by simp [tgC]
theorem tgC_sub (g : Nat → Int) : sub (tgC g) 0 4 = tgC g := by simp [tgC, sub]
theorem tgC_all (g : Nat → Int) : (tgC g).all (fun v => v.oneCell') = true := by simp [tgC]; exact ⟨rfl, rfl, rfl, rfl⟩
theorem tgC_get {g : Nat → Int} {k : Nat} (h : k < 4) : (tgC g)[k]? = some (.int .u64 (g k)) := by
  match k, h with
  | 0, _ => rfl
  | 1, _ => rfl
  | 2, _ => rfl
  | 3, _ => rfl
theorem tgC_set {g : Nat → Int} {k : Nat} {v : Int} (h : k < 4) : (tgC g).set k (.int .u64 v) = tgC (wset g k v) := by
  match k, h with
  | 0, _ => rfl
  | 1, _ => rfl
  | 2, _ => rfl
  | 3, _ => rfl
theorem tgC_over (g h : Nat → Int) : splice (tgC g) 0 (tgC h) = tgC h := by simp [tgC, splice]
theorem tgC_over2 (g h : Nat → Int) : tgC h ++ List.drop (tgC h).length (tgC g) = tgC h := by simp [tgC]
theorem tgC_zero : tgC (fun _ => 0) = [.int .u64 0, .int .u64 0, .int .u64 0, .int .u64 0] := rfl
theorem tgC_congr {g h : Nat → Int} (e : ∀ k, k < 4 → g k = h k) : tgC g = tgC h := by simp [tgC, e 0, e 1, e 2, e 3]
theorem bits_eq {g h : Nat → Int} (hg : Wok g) (hh : Wok h) (e : ∀ i, i < 256 → bit g i = bit h i) : tgC g = tgC h := by
  refine tgC_congr fun k hk => ?_
  have h1 := hg k
  have h2 := hh k
  have : (g k).toNat = (h k).toNat := by
    apply Nat.eq_of_testBit_eq
    intro i
    by_cases hi : i < 64
    · have := e (64 * k + i) (by omega)
      unfold bit at this
      rw [show (64 * k + i) / 64 = k by omega, show (64 * k + i) % 64 = i by omega] at this
      exact this
    · have p : 2 ^ 64 ≤ 2 ^ i := Nat.pow_le_pow_right (by omega) (by omega)
      rw [Nat.testBit_lt_two_pow (by omega), Nat.testBit_lt_two_pow (by omega)]
  omega
theorem tis_spec {w : World} {i : Int} {K : Value → World → Prop} (hK : K (.bool (decide (0 ≤ i ∧ i < 256))) w) : callsK Try.prog 65 #[.int .i64 i] w K := by
  apply F65_ok
  unfold F65
  by_cases h0 : 0 ≤ i
  · by_cases h1 : i < 256
    · simp (disch := first | assumption | omega | (simp only [szR, tgC_len, tgC_all] <;> omega) | rfl | decide) only [gen0, gen1, gen2, rulesM, litR, bolR, Nat.reduceAdd, Nat.reduceLeDiff, numR, memR, valR, heapR, updR, intR, decR, extR, slR, segR, thenR, pnR, Int.reduceToNat, Int.reduceAdd, Int.reduceSub, Int.reduceLT, Int.reduceLE, Nat.reduceSub, Nat.reduceMul, Nat.reduceEqDiff, joinBR]
      rwa [decide_eq_true ⟨h0, h1⟩] at hK
    · simp (disch := first | assumption | omega | (simp only [szR, tgC_len, tgC_all] <;> omega) | rfl | decide) only [gen0, gen1, gen2, rulesM, litR, bolR, Nat.reduceAdd, Nat.reduceLeDiff, numR, memR, valR, heapR, updR, intR, decR, extR, slR, segR, thenR, pnR, Int.reduceToNat, Int.reduceAdd, Int.reduceSub, Int.reduceLT, Int.reduceLE, Nat.reduceSub, Nat.reduceMul, Nat.reduceEqDiff, joinBR]
      rwa [decide_eq_false fun h => h1 h.2] at hK
  · simp (disch := first | assumption | omega | (simp only [szR, tgC_len, tgC_all] <;> omega) | rfl | decide) only [gen0, gen1, gen2, rulesM, litR, bolR, Nat.reduceAdd, Nat.reduceLeDiff, numR, memR, valR, heapR, updR, intR, decR, extR, slR, segR, thenR, pnR, Int.reduceToNat, Int.reduceAdd, Int.reduceSub, Int.reduceLT, Int.reduceLE, Nat.reduceSub, Nat.reduceMul, Nat.reduceEqDiff, joinBR]
    rwa [decide_eq_false fun h => h0 h.1] at hK
theorem pow_lt64 {i : Nat} (h : i < 64) : (2 : Nat) ^ i < 18446744073709551616 := Nat.pow_lt_pow_right (a := 2) (by omega) h
theorem shl_bit {i : Int} (h : 0 ≤ i ∧ i < 64) : IntKind.u64.wrap (1 * 2 ^ i.toNat) = ((2 ^ i.toNat : Nat) : Int) := by
  have := pow_lt64 (i := i.toNat) (by omega)
  have e2 : (1 : Int) * 2 ^ i.toNat = ((2 ^ i.toNat : Nat) : Int) := by simp
  rw [e2]
  generalize 2 ^ i.toNat = p at this
  exact wrap_u64 ⟨by omega, by omega⟩
theorem With_spec {w : World} {g : Nat → Int} {i : Int} {tag : Bool} (hg : Wok g) {K : Value → World → Prop}
    (hK : ∀ g' w', Wok g' → (∀ j, j < 256 → bit g' j = if (j : Int) = i then tag else bit g j) → Ext [] w w' → K (.agg (tgC g').toArray) w') : callsK Try.prog 96 #[.agg (tgC g).toArray, .int .i64 i, .bool tag] w K := by
  apply F96_ok
  unfold F96
  simp (disch := first | assumption | omega | (simp only [szR, tgC_len, tgC_all] <;> omega) | rfl | decide) only [gen0, gen1, gen2, rulesM, litR, bolR, Nat.reduceAdd, Nat.reduceLeDiff, numR, memR, valR, heapR, updR, intR, decR, extR, slR, segR, thenR, pnR, Int.reduceToNat, Int.reduceAdd, Int.reduceSub, Int.reduceLT, Int.reduceLE, Nat.reduceSub, Nat.reduceMul, Nat.reduceEqDiff, tgC_len]
  apply tis_spec
  by_cases hi : 0 ≤ i ∧ i < 256
  · rw [decide_eq_true hi]
    have hm : i.tmod 64 = i % 64 := Int.tmod_eq_emod_of_nonneg hi.1
    have hq : i.tdiv 64 = i / 64 := Int.tdiv_eq_ediv_of_nonneg hi.1
    have hsh := shl_bit (i := i % 64) (by omega)
    have hpl := pow_lt64 (i := (i % 64).toNat) (by omega)
    have hgk := hg (i / 64).toNat
    obtain ⟨p, hp⟩ : ∃ p, p = 2 ^ (i % 64).toNat := ⟨_, rfl⟩
    rw [← hp] at hsh hpl
    simp (disch := first | assumption | omega | (simp only [szR, tgC_len, tgC_all] <;> omega) | rfl | decide) only [gen0, gen1, gen2, rulesM, litR, bolR, Nat.reduceAdd, Nat.reduceLeDiff, numR, memR, valR, heapR, updR, intR, decR, extR, slR, segR, thenR, pnR, Int.reduceToNat, Int.reduceAdd, Int.reduceSub, Int.reduceLT, Int.reduceLE, Nat.reduceSub, Nat.reduceMul, Nat.reduceEqDiff, hm, hsh, tgC_len]
    refine joinL.intro fun J hJ => ?_
    have hrest : ∀ g' w2, w2.heap[w.heap.size]? = some (.cells (tgC g').toArray 88 (0, 0)) → w2.heap[w.heap.size + 1]? = some (.cells (tgC fun _ => 0).toArray 88 (0, 0)) → Wok g' → (∀ j, j < 256 → bit g' j = if (j : Int) = i then tag else bit g j) → Ext [] w w2 → J [] w2 := by
      intro g' w2 h1 h2 h3 h4 h5
      apply hJ
      intro _
      have l1 := lt_of_at h1
      have l2 := lt_of_at h2
      simp (disch := first | assumption | omega | (simp only [szR, tgC_len, tgC_all] <;> omega) | rfl | decide) only [gen0, gen1, gen2, rulesM, litR, bolR, Nat.reduceAdd, Nat.reduceLeDiff, numR, memR, valR, heapR, updR, intR, decR, extR, slR, segR, thenR, pnR, Int.reduceToNat, Int.reduceAdd, Int.reduceSub, Int.reduceLT, Int.reduceLE, Nat.reduceSub, Nat.reduceMul, Nat.reduceEqDiff, h1, h2, tgC_len, tgC_sub, tgC_all, tgC_over, tgC_over2]
      exact hK g' _ h3 h4 (by (repeat first | assumption | exact Ext.refl | apply Ext.alloc | apply Ext.drew | (refine Ext.updN ?_ ?_; (focus first | omega | (simp only [szR] <;> omega))) | (refine Ext.updI ?_ ?_; (focus (simp; done)))))
    have hbit : ∀ v : Int, (∀ j, j < 64 → v.toNat.testBit j = if j = (i % 64).toNat then tag else (g (i / 64).toNat).toNat.testBit j) → ∀ j, j < 256 → bit (wset g (i / 64).toNat v) j = if (j : Int) = i then tag else bit g j := by
      intro v hv j hj
      unfold bit wset
      by_cases h1 : j / 64 = (i / 64).toNat
      · rw [if_pos h1, hv _ (by omega), h1]
        by_cases h2 : (j : Int) = i
        · rw [if_pos (by omega), if_pos h2]
        · rw [if_neg (by omega), if_neg h2]
      · rw [if_neg h1, if_neg (by omega)]
    cases tag with
    | true =>
      have hor := or_u64 hgk (b := (p : Int)) (by omega)
      simp (disch := first | assumption | omega | (simp only [szR, tgC_len, tgC_all] <;> omega) | rfl | decide) only [gen0, gen1, gen2, rulesM, litR, bolR, Nat.reduceAdd, Nat.reduceLeDiff, numR, memR, valR, heapR, updR, intR, decR, extR, slR, segR, thenR, pnR, Int.reduceToNat, Int.reduceAdd, Int.reduceSub, Int.reduceLT, Int.reduceLE, Nat.reduceSub, Nat.reduceMul, Nat.reduceEqDiff, hq, tgC_get, tgC_set, tgC_len, hor]
      refine hrest (wset g (i / 64).toNat (((g (i / 64).toNat).toNat ||| p : Nat) : Int)) _ (by simp (disch := first | assumption | omega | (simp only [szR, tgC_len, tgC_all] <;> omega) | rfl | decide) only [gen0, gen1, gen2, rulesM, litR, bolR, Nat.reduceAdd, Nat.reduceLeDiff, numR, memR, valR, heapR, updR, intR, decR, extR, slR, segR, thenR, pnR, Int.reduceToNat, Int.reduceAdd, Int.reduceSub, Int.reduceLT, Int.reduceLE, Nat.reduceSub, Nat.reduceMul, Nat.reduceEqDiff, tgC_set]) (by simp (disch := first | assumption | omega | (simp only [szR, tgC_len, tgC_all] <;> omega) | rfl | decide) only [gen0, gen1, gen2, rulesM, litR, bolR, Nat.reduceAdd, Nat.reduceLeDiff, numR, memR, valR, heapR, updR, intR, decR, extR, slR, segR, thenR, pnR, Int.reduceToNat, Int.reduceAdd, Int.reduceSub, Int.reduceLT, Int.reduceLE, Nat.reduceSub, Nat.reduceMul, Nat.reduceEqDiff]; rfl) (hg.wset ⟨by omega, by have := or_lt (a := (g (i / 64).toNat).toNat) (b := p) (by omega) hpl; omega⟩) (hbit _ fun j hj => ?_) ?_
      · simp only [Int.toNat_natCast, Nat.testBit_or, hp, Nat.testBit_two_pow]
        by_cases h : j = (i % 64).toNat
        · subst h; simp
        · rw [if_neg h]; simp [Ne.symm h]
      · (repeat first | assumption | exact Ext.refl | apply Ext.alloc | apply Ext.drew | (refine Ext.updN ?_ ?_; (focus first | omega | (simp only [szR] <;> omega))) | (refine Ext.updI ?_ ?_; (focus (simp; done))))
    | false =>
      obtain ⟨r, hr, hr2, hr3⟩ := andNot_u64 (a := g (i / 64).toNat) (b := (p : Int)) (by omega) hgk
      simp (disch := first | assumption | omega | (simp only [szR, tgC_len, tgC_all] <;> omega) | rfl | decide) only [gen0, gen1, gen2, rulesM, litR, bolR, Nat.reduceAdd, Nat.reduceLeDiff, numR, memR, valR, heapR, updR, intR, decR, extR, slR, segR, thenR, pnR, Int.reduceToNat, Int.reduceAdd, Int.reduceSub, Int.reduceLT, Int.reduceLE, Nat.reduceSub, Nat.reduceMul, Nat.reduceEqDiff, hq, tgC_get, tgC_set, tgC_len, hr]
      refine hrest (wset g (i / 64).toNat (r : Int)) _ (by simp (disch := first | assumption | omega | (simp only [szR, tgC_len, tgC_all] <;> omega) | rfl | decide) only [gen0, gen1, gen2, rulesM, litR, bolR, Nat.reduceAdd, Nat.reduceLeDiff, numR, memR, valR, heapR, updR, intR, decR, extR, slR, segR, thenR, pnR, Int.reduceToNat, Int.reduceAdd, Int.reduceSub, Int.reduceLT, Int.reduceLE, Nat.reduceSub, Nat.reduceMul, Nat.reduceEqDiff, tgC_set]) (by simp (disch := first | assumption | omega | (simp only [szR, tgC_len, tgC_all] <;> omega) | rfl | decide) only [gen0, gen1, gen2, rulesM, litR, bolR, Nat.reduceAdd, Nat.reduceLeDiff, numR, memR, valR, heapR, updR, intR, decR, extR, slR, segR, thenR, pnR, Int.reduceToNat, Int.reduceAdd, Int.reduceSub, Int.reduceLT, Int.reduceLE, Nat.reduceSub, Nat.reduceMul, Nat.reduceEqDiff]; rfl) (hg.wset ⟨by omega, by omega⟩) (hbit _ fun j hj => ?_) ?_
      · rw [Int.toNat_natCast, hr3 j hj]
        simp only [Int.toNat_natCast, hp, Nat.testBit_two_pow]
        by_cases h : j = (i % 64).toNat
        · subst h; simp
        · rw [if_neg h]; simp [Ne.symm h]
      · (repeat first | assumption | exact Ext.refl | apply Ext.alloc | apply Ext.drew | (refine Ext.updN ?_ ?_; (focus first | omega | (simp only [szR] <;> omega))) | (refine Ext.updI ?_ ?_; (focus (simp; done))))
  · rw [decide_eq_false hi]
    simp (disch := first | assumption | omega | (simp only [szR, tgC_len, tgC_all] <;> omega) | rfl | decide) only [gen0, gen1, gen2, rulesM, litR, bolR, Nat.reduceAdd, Nat.reduceLeDiff, numR, memR, valR, heapR, updR, intR, decR, extR, slR, segR, thenR, pnR, Int.reduceToNat, Int.reduceAdd, Int.reduceSub, Int.reduceLT, Int.reduceLE, Nat.reduceSub, Nat.reduceMul, Nat.reduceEqDiff, tgC_len, tgC_sub, tgC_all]
    refine hK g _ hg (fun j hj => ?_) ?_
    · rw [if_neg (by omega)]
    · (repeat first | assumption | exact Ext.refl | apply Ext.alloc | apply Ext.drew | (refine Ext.updN ?_ ?_; (focus first | omega | (simp only [szR] <;> omega))) | (refine Ext.updI ?_ ?_; (focus (simp; done))))
theorem Get_spec {w : World} {g : Nat → Int} {i : Int} (hg : Wok g) {K : Value → World → Prop}
    (hK : ∀ w', Ext [] w w' → K (.bool (decide (0 ≤ i ∧ i < 256) && bit g i.toNat)) w') : callsK Try.prog 45 #[.agg (tgC g).toArray, .int .i64 i] w K := by
  apply F45_ok
  unfold F45
  simp (disch := first | assumption | omega | (simp only [szR, tgC_len, tgC_all] <;> omega) | rfl | decide) only [gen0, gen1, gen2, rulesM, litR, bolR, Nat.reduceAdd, Nat.reduceLeDiff, numR, memR, valR, heapR, updR, intR, decR, extR, slR, segR, thenR, pnR, Int.reduceToNat, Int.reduceAdd, Int.reduceSub, Int.reduceLT, Int.reduceLE, Nat.reduceSub, Nat.reduceMul, Nat.reduceEqDiff]
  apply tis_spec
  by_cases hi : 0 ≤ i ∧ i < 256
  · rw [decide_eq_true hi] at hK ⊢
    have hm : i.tmod 64 = i % 64 := Int.tmod_eq_emod_of_nonneg hi.1
    have hq : i.tdiv 64 = i / 64 := Int.tdiv_eq_ediv_of_nonneg hi.1
    have hgk := hg (i / 64).toNat
    have hd : ((g (i / 64).toNat) / 2 ^ (i % 64).toNat) = (((g (i / 64).toNat).toNat / 2 ^ (i % 64).toNat : Nat) : Int) := by
      have : g (i / 64).toNat = ((g (i / 64).toNat).toNat : Int) := by omega
      rw [this]
      simp
    have hfd : (g (i / 64).toNat).fdiv (2 ^ (i % 64).toNat) = (((g (i / 64).toNat).toNat / 2 ^ (i % 64).toNat : Nat) : Int) := by
      rw [Int.fdiv_eq_ediv_of_nonneg _ (Int.le_of_lt (Int.pow_pos (by omega))), hd]
    have hlt : (g (i / 64).toNat).toNat / 2 ^ (i % 64).toNat < 18446744073709551616 := Nat.lt_of_le_of_lt (Nat.div_le_self _ _) (by omega)
    have hb : bit g i.toNat = decide ((((((g (i / 64).toNat).toNat / 2 ^ (i % 64).toNat : Nat) : Int).toNat &&& (1 : Int).toNat : Nat) : Int) ≠ 0) := by
      unfold bit
      rw [show i.toNat / 64 = (i / 64).toNat by omega, show i.toNat % 64 = (i % 64).toNat by omega, Nat.testBit_eq_decide_div_mod_eq]
      rw [Bool.eq_iff_iff]
      simp only [decide_eq_true_eq, Int.toNat_natCast, show (1 : Int).toNat = 1 from rfl, Nat.and_one_is_mod]
      omega
    rw [hb] at hK
    generalize (g (i / 64).toNat).toNat / 2 ^ (i % 64).toNat = q at hfd hlt hK
    have hand := and_u64 (a := (q : Int)) (b := 1) (by omega) (by omega)
    simp (disch := first | assumption | omega | (simp only [szR, tgC_len, tgC_all] <;> omega) | rfl | decide) only [gen0, gen1, gen2, rulesM, litR, bolR, Nat.reduceAdd, Nat.reduceLeDiff, numR, memR, valR, heapR, updR, intR, decR, extR, slR, segR, thenR, pnR, Int.reduceToNat, Int.reduceAdd, Int.reduceSub, Int.reduceLT, Int.reduceLE, Nat.reduceSub, Nat.reduceMul, Nat.reduceEqDiff, joinBR, hm, hq, tgC_get, hfd, hand]
    simp only [Bool.true_and] at hK
    exact hK _ (by (repeat first | assumption | exact Ext.refl | apply Ext.alloc | apply Ext.drew | (refine Ext.updN ?_ ?_; (focus first | omega | (simp only [szR] <;> omega))) | (refine Ext.updI ?_ ?_; (focus (simp; done)))))
  · rw [decide_eq_false hi] at hK ⊢
    simp (disch := first | assumption | omega | (simp only [szR, tgC_len, tgC_all] <;> omega) | rfl | decide) only [gen0, gen1, gen2, rulesM, litR, bolR, Nat.reduceAdd, Nat.reduceLeDiff, numR, memR, valR, heapR, updR, intR, decR, extR, slR, segR, thenR, pnR, Int.reduceToNat, Int.reduceAdd, Int.reduceSub, Int.reduceLT, Int.reduceLE, Nat.reduceSub, Nat.reduceMul, Nat.reduceEqDiff, joinBR]
    exact hK _ (by (repeat first | assumption | exact Ext.refl | apply Ext.alloc | apply Ext.drew | (refine Ext.updN ?_ ?_; (focus first | omega | (simp only [szR] <;> omega))) | (refine Ext.updI ?_ ?_; (focus (simp; done)))))
theorem Without_spec {w : World} {g h : Nat → Int} (hg : Wok g) (hh : Wok h) {K : Value → World → Prop}
    (hK : ∀ g' w', Wok g' → (∀ j, j < 256 → bit g' j = (bit g j && !bit h j)) → Ext [] w w' → K (.agg (tgC g').toArray) w') : callsK Try.prog 43 #[.agg (tgC g).toArray, .agg (tgC h).toArray] w K := by
  apply F43_ok
  unfold F43
  simp (disch := first | assumption | omega | (simp only [szR, tgC_len, tgC_all] <;> omega) | rfl | decide) only [gen0, gen1, gen2, rulesM, litR, bolR, Nat.reduceAdd, Nat.reduceLeDiff, numR, memR, valR, heapR, updR, intR, decR, extR, slR, segR, thenR, pnR, Int.reduceToNat, Int.reduceAdd, Int.reduceSub, Int.reduceLT, Int.reduceLE, Nat.reduceSub, Nat.reduceMul, Nat.reduceEqDiff]
  refine loopT.intro (fun st w' => ∃ (k : Nat) (z : Int) (g' : Nat → Int), k ≤ 4 ∧ st = [.int .i64 z] ∧ z = k ∧ w'.heap[w.heap.size]? = some (.cells (tgC g').toArray 88 (0, 0)) ∧ w'.heap[w.heap.size + 1]? = some (.cells (tgC h).toArray 88 (0, 0)) ∧ w'.heap[w.heap.size + 1 + 1]? = some (.cells (tgC fun _ => 0).toArray 88 (0, 0)) ∧ Wok g' ∧ (∀ j, j < 256 → bit g' j = if j / 64 < k then (bit g j && !bit h j) else bit g j) ∧ Ext [] w w')
    (fun st _ => match st with
      | [.int _ z] => 4 - z.toNat
      | _ => 0) ⟨0, 0, g, by omega, rfl, rfl, by simp (disch := first | assumption | omega | (simp only [szR, tgC_len, tgC_all] <;> omega) | rfl | decide) only [gen0, gen1, gen2, rulesM, litR, bolR, Nat.reduceAdd, Nat.reduceLeDiff, numR, memR, valR, heapR, updR, intR, decR, extR, slR, segR, thenR, pnR, Int.reduceToNat, Int.reduceAdd, Int.reduceSub, Int.reduceLT, Int.reduceLE, Nat.reduceSub, Nat.reduceMul, Nat.reduceEqDiff], by simp (disch := first | assumption | omega | (simp only [szR, tgC_len, tgC_all] <;> omega) | rfl | decide) only [gen0, gen1, gen2, rulesM, litR, bolR, Nat.reduceAdd, Nat.reduceLeDiff, numR, memR, valR, heapR, updR, intR, decR, extR, slR, segR, thenR, pnR, Int.reduceToNat, Int.reduceAdd, Int.reduceSub, Int.reduceLT, Int.reduceLE, Nat.reduceSub, Nat.reduceMul, Nat.reduceEqDiff], by simp (disch := first | assumption | omega | (simp only [szR, tgC_len, tgC_all] <;> omega) | rfl | decide) only [gen0, gen1, gen2, rulesM, litR, bolR, Nat.reduceAdd, Nat.reduceLeDiff, numR, memR, valR, heapR, updR, intR, decR, extR, slR, segR, thenR, pnR, Int.reduceToNat, Int.reduceAdd, Int.reduceSub, Int.reduceLT, Int.reduceLE, Nat.reduceSub, Nat.reduceMul, Nat.reduceEqDiff]; rfl, hg, by simp, by (repeat first | assumption | exact Ext.refl | apply Ext.alloc | apply Ext.drew | (refine Ext.updN ?_ ?_; (focus first | omega | (simp only [szR] <;> omega))) | (refine Ext.updI ?_ ?_; (focus (simp; done))))⟩ ?_
  rintro st w' ⟨k, z, g', hk, rfl, rfl, h1, h2, h3, hg', hb, hx⟩ _
  have l1 := lt_of_at h1
  have l2 := lt_of_at h2
  have l3 := lt_of_at h3
  by_cases h4 : k < 4
  · obtain ⟨r, hr, hr2, hr3⟩ := andNot_u64 (a := g' k) (b := h k) (hh k) (hg' k)
    simp (disch := first | assumption | omega | (simp only [szR, tgC_len, tgC_all] <;> omega) | rfl | decide) only [gen0, gen1, gen2, rulesM, litR, bolR, Nat.reduceAdd, Nat.reduceLeDiff, numR, memR, valR, heapR, updR, intR, decR, extR, slR, segR, thenR, pnR, Int.reduceToNat, Int.reduceAdd, Int.reduceSub, Int.reduceLT, Int.reduceLE, Nat.reduceSub, Nat.reduceMul, Nat.reduceEqDiff, h1, h2, tgC_get, tgC_set, hr]
    refine ⟨⟨k + 1, _, wset g' k r, by omega, rfl, by omega, by simp (disch := first | assumption | omega | (simp only [szR, tgC_len, tgC_all] <;> omega) | rfl | decide) only [gen0, gen1, gen2, rulesM, litR, bolR, Nat.reduceAdd, Nat.reduceLeDiff, numR, memR, valR, heapR, updR, intR, decR, extR, slR, segR, thenR, pnR, Int.reduceToNat, Int.reduceAdd, Int.reduceSub, Int.reduceLT, Int.reduceLE, Nat.reduceSub, Nat.reduceMul, Nat.reduceEqDiff, h1, tgC_set], by simp (disch := first | assumption | omega | (simp only [szR, tgC_len, tgC_all] <;> omega) | rfl | decide) only [gen0, gen1, gen2, rulesM, litR, bolR, Nat.reduceAdd, Nat.reduceLeDiff, numR, memR, valR, heapR, updR, intR, decR, extR, slR, segR, thenR, pnR, Int.reduceToNat, Int.reduceAdd, Int.reduceSub, Int.reduceLT, Int.reduceLE, Nat.reduceSub, Nat.reduceMul, Nat.reduceEqDiff, h2], by simp (disch := first | assumption | omega | (simp only [szR, tgC_len, tgC_all] <;> omega) | rfl | decide) only [gen0, gen1, gen2, rulesM, litR, bolR, Nat.reduceAdd, Nat.reduceLeDiff, numR, memR, valR, heapR, updR, intR, decR, extR, slR, segR, thenR, pnR, Int.reduceToNat, Int.reduceAdd, Int.reduceSub, Int.reduceLT, Int.reduceLE, Nat.reduceSub, Nat.reduceMul, Nat.reduceEqDiff, h3], hg'.wset (by omega), fun j hj => ?_, by (repeat first | assumption | exact Ext.refl | apply Ext.alloc | apply Ext.drew | (refine Ext.updN ?_ ?_; (focus first | omega | (simp only [szR] <;> omega))) | (refine Ext.updI ?_ ?_; (focus (simp; done))))⟩, by first | omega | (simp <;> omega)⟩
    by_cases hjk : j / 64 = k
    · have e1 := hb j hj
      rw [if_neg (by omega)] at e1
      rw [if_pos (by omega)]
      unfold bit at e1 ⊢
      unfold wset
      rw [if_pos hjk, Int.toNat_natCast, hr3 _ (by omega), ← e1, hjk]
    · have e1 := hb j hj
      have e2 : bit (wset g' k r) j = bit g' j := by
        unfold bit wset
        rw [if_neg hjk]
      rw [e2, e1]
      by_cases hjl : j / 64 < k
      · rw [if_pos hjl, if_pos (by omega)]
      · rw [if_neg hjl, if_neg (by omega)]
  · obtain rfl : k = 4 := by omega
    simp (disch := first | assumption | omega | (simp only [szR, tgC_len, tgC_all] <;> omega) | rfl | decide) only [gen0, gen1, gen2, rulesM, litR, bolR, Nat.reduceAdd, Nat.reduceLeDiff, numR, memR, valR, heapR, updR, intR, decR, extR, slR, segR, thenR, pnR, Int.reduceToNat, Int.reduceAdd, Int.reduceSub, Int.reduceLT, Int.reduceLE, Nat.reduceSub, Nat.reduceMul, Nat.reduceEqDiff, h1, h3, tgC_sub, tgC_over, tgC_over2]
    refine hK g' _ hg' (fun j hj => ?_) (by (repeat first | assumption | exact Ext.refl | apply Ext.alloc | apply Ext.drew | (refine Ext.updN ?_ ?_; (focus first | omega | (simp only [szR] <;> omega))) | (refine Ext.updI ?_ ?_; (focus (simp; done)))))
    rw [hb j hj, if_pos (by omega)]
theorem Cover_spec {w : World} {off n : Int} (ho : 0 ≤ off ∧ off < 4096) (hn : 1 ≤ n ∧ n < 9223372036854775808) {K : Value → World → Prop}
    (hK : ∀ g w', Wok g → (∀ j, j < 256 → bit g j = decide (off / 16 ≤ (j : Int) ∧ (j : Int) ≤ (off + min n (4096 - off) - 1) / 16)) → Ext [] w w' → K (.agg (tgC g).toArray) w') : callsK Try.prog 83 #[.int .i64 off, .int .i64 n] w K := by
  apply F83_ok
  unfold F83
  simp (disch := first | assumption | omega | (simp only [szR, tgC_len, tgC_all] <;> omega) | rfl | decide) only [gen0, gen1, gen2, rulesM, litR, bolR, Nat.reduceAdd, Nat.reduceLeDiff, numR, memR, valR, heapR, updR, intR, decR, extR, slR, segR, thenR, pnR, Int.reduceToNat, Int.reduceAdd, Int.reduceSub, Int.reduceLT, Int.reduceLE, Nat.reduceSub, Nat.reduceMul, Nat.reduceEqDiff, joinBR]
  refine joinL.intro fun J hJ => ?_
  simp (disch := first | assumption | omega | (simp only [szR, tgC_len, tgC_all] <;> omega) | rfl | decide) only [gen0, gen1, gen2, rulesM, litR, bolR, Nat.reduceAdd, Nat.reduceLeDiff, numR, memR, valR, heapR, updR, intR, decR, extR, slR, segR, thenR, pnR, Int.reduceToNat, Int.reduceAdd, Int.reduceSub, Int.reduceLT, Int.reduceLE, Nat.reduceSub, Nat.reduceMul, Nat.reduceEqDiff]
  apply hJ
  intro _
  have hmin : min n (4096 - off) = min n (4096 - off) := rfl
  have hlast : 0 ≤ off + min n (4096 - off) - 1 ∧ off + min n (4096 - off) - 1 < 4096 := by omega
  obtain ⟨last, hl⟩ : ∃ last, last = off + min n (4096 - off) - 1 := ⟨_, rfl⟩
  rw [← hl] at hK hlast
  obtain ⟨m, hm⟩ : ∃ m, m = min n (4096 - off) := ⟨_, rfl⟩
  have hm2 : 1 ≤ m ∧ m ≤ 4096 := by omega
  have hl2 : off + m - 1 = last := by omega
  simp (disch := first | assumption | omega | (simp only [szR, tgC_len, tgC_all] <;> omega) | rfl | decide) only [gen0, gen1, gen2, rulesM, litR, bolR, Nat.reduceAdd, Nat.reduceLeDiff, numR, memR, valR, heapR, updR, intR, decR, extR, slR, segR, thenR, pnR, Int.reduceToNat, Int.reduceAdd, Int.reduceSub, Int.reduceLT, Int.reduceLE, Nat.reduceSub, Nat.reduceMul, Nat.reduceEqDiff, mnR, ← hm, hl2]
  refine loopT.intro (fun st w' => ∃ (k : Nat) (z : Int) (g : Nat → Int), k ≤ 256 ∧ st = [.int .i64 z] ∧ z = k ∧ w'.heap[w.heap.size]? = some (.cells (tgC fun _ => 0).toArray 88 (0, 0)) ∧ w'.heap[w.heap.size + 1]? = some (.cells (tgC g).toArray 88 (0, 0)) ∧ Wok g ∧ (∀ j, j < 256 → bit g j = decide (j < k ∧ off / 16 ≤ (j : Int) ∧ (j : Int) ≤ last / 16)) ∧ Ext [] w w')
    (fun st _ => match st with
      | [.int _ z] => 256 - z.toNat
      | _ => 0) ⟨0, 0, fun _ => 0, by omega, rfl, rfl, by simp (disch := first | assumption | omega | (simp only [szR, tgC_len, tgC_all] <;> omega) | rfl | decide) only [gen0, gen1, gen2, rulesM, litR, bolR, Nat.reduceAdd, Nat.reduceLeDiff, numR, memR, valR, heapR, updR, intR, decR, extR, slR, segR, thenR, pnR, Int.reduceToNat, Int.reduceAdd, Int.reduceSub, Int.reduceLT, Int.reduceLE, Nat.reduceSub, Nat.reduceMul, Nat.reduceEqDiff]; rfl, by simp (disch := first | assumption | omega | (simp only [szR, tgC_len, tgC_all] <;> omega) | rfl | decide) only [gen0, gen1, gen2, rulesM, litR, bolR, Nat.reduceAdd, Nat.reduceLeDiff, numR, memR, valR, heapR, updR, intR, decR, extR, slR, segR, thenR, pnR, Int.reduceToNat, Int.reduceAdd, Int.reduceSub, Int.reduceLT, Int.reduceLE, Nat.reduceSub, Nat.reduceMul, Nat.reduceEqDiff]; rfl, Wok.zero, by simp [bit_zero], by (repeat first | assumption | exact Ext.refl | apply Ext.alloc | apply Ext.drew | (refine Ext.updN ?_ ?_; (focus first | omega | (simp only [szR] <;> omega))) | (refine Ext.updI ?_ ?_; (focus (simp; done))))⟩ ?_
  rintro st w' ⟨k, z, g, hk, rfl, rfl, h1, h2, hg, hb, hx⟩ _
  have l1 := lt_of_at h1
  have l2 := lt_of_at h2
  by_cases h4 : k < 256
  · have hgo : ∀ tag : Bool, tag = decide (off / 16 ≤ (k : Int) ∧ (k : Int) ≤ last / 16) → ∀ g' (w2 : World), Wok g' → (∀ j, j < 256 → bit g' j = if (j : Int) = k then tag else bit g j) → ∀ j, j < 256 → bit g' j = decide (j < k + 1 ∧ off / 16 ≤ (j : Int) ∧ (j : Int) ≤ last / 16) := by
      intro tag ht g' w2 _ hb' j hj
      rw [hb' j hj]
      by_cases hjk : (j : Int) = k
      · rw [if_pos hjk, ht]
        obtain rfl : j = k := by omega
        simp
      · rw [if_neg hjk, hb j hj, Bool.eq_iff_iff]
        simp only [decide_eq_true_eq]
        omega
    by_cases c1 : off / 16 ≤ (k : Int)
    · by_cases c2 : (k : Int) ≤ last / 16
      · simp (disch := first | assumption | omega | (simp only [szR, tgC_len, tgC_all] <;> omega) | rfl | decide) only [gen0, gen1, gen2, rulesM, litR, bolR, Nat.reduceAdd, Nat.reduceLeDiff, numR, memR, valR, heapR, updR, intR, decR, extR, slR, segR, thenR, pnR, Int.reduceToNat, Int.reduceAdd, Int.reduceSub, Int.reduceLT, Int.reduceLE, Nat.reduceSub, Nat.reduceMul, Nat.reduceEqDiff, joinBR, h2, tgC_sub]
        refine With_spec hg fun g' w2 hg' hb' hx2 => ?_
        have e1 := hx2.at h1 (by simp)
        have e2 := hx2.at h2 (by simp)
        simp (disch := first | assumption | omega | (simp only [szR, tgC_len, tgC_all] <;> omega) | rfl | decide) only [gen0, gen1, gen2, rulesM, litR, bolR, Nat.reduceAdd, Nat.reduceLeDiff, numR, memR, valR, heapR, updR, intR, decR, extR, slR, segR, thenR, pnR, Int.reduceToNat, Int.reduceAdd, Int.reduceSub, Int.reduceLT, Int.reduceLE, Nat.reduceSub, Nat.reduceMul, Nat.reduceEqDiff, e2, tgC_over, tgC_over2]
        refine ⟨⟨k + 1, _, g', by omega, rfl, by omega, (by first | with_reducible rfl | assumption | (simp (disch := first | assumption | omega | (simp only [szR, tgC_len, tgC_all] <;> omega) | rfl | decide) only [gen0, gen1, gen2, rulesM, litR, bolR, Nat.reduceAdd, Nat.reduceLeDiff, numR, memR, valR, heapR, updR, intR, decR, extR, slR, segR, thenR, pnR, Int.reduceToNat, Int.reduceAdd, Int.reduceSub, Int.reduceLT, Int.reduceLE, Nat.reduceSub, Nat.reduceMul, Nat.reduceEqDiff, e1] <;> rfl)), (by first | with_reducible rfl | assumption | (simp (disch := first | assumption | omega | (simp only [szR, tgC_len, tgC_all] <;> omega) | rfl | decide) only [gen0, gen1, gen2, rulesM, litR, bolR, Nat.reduceAdd, Nat.reduceLeDiff, numR, memR, valR, heapR, updR, intR, decR, extR, slR, segR, thenR, pnR, Int.reduceToNat, Int.reduceAdd, Int.reduceSub, Int.reduceLT, Int.reduceLE, Nat.reduceSub, Nat.reduceMul, Nat.reduceEqDiff, e2] <;> rfl)), hg', hgo true (by simp [c1, c2]) g' w2 hg' hb', ?_⟩, by first | omega | (simp <;> omega)⟩
        have := hx.trans hx2 (by simp)
        (repeat first | assumption | exact Ext.refl | apply Ext.alloc | apply Ext.drew | (refine Ext.updN ?_ ?_; (focus first | omega | (simp only [szR] <;> omega))) | (refine Ext.updI ?_ ?_; (focus (simp; done))))
      · simp (disch := first | assumption | omega | (simp only [szR, tgC_len, tgC_all] <;> omega) | rfl | decide) only [gen0, gen1, gen2, rulesM, litR, bolR, Nat.reduceAdd, Nat.reduceLeDiff, numR, memR, valR, heapR, updR, intR, decR, extR, slR, segR, thenR, pnR, Int.reduceToNat, Int.reduceAdd, Int.reduceSub, Int.reduceLT, Int.reduceLE, Nat.reduceSub, Nat.reduceMul, Nat.reduceEqDiff, joinBR, h2, tgC_sub]
        refine With_spec hg fun g' w2 hg' hb' hx2 => ?_
        have e1 := hx2.at h1 (by simp)
        have e2 := hx2.at h2 (by simp)
        simp (disch := first | assumption | omega | (simp only [szR, tgC_len, tgC_all] <;> omega) | rfl | decide) only [gen0, gen1, gen2, rulesM, litR, bolR, Nat.reduceAdd, Nat.reduceLeDiff, numR, memR, valR, heapR, updR, intR, decR, extR, slR, segR, thenR, pnR, Int.reduceToNat, Int.reduceAdd, Int.reduceSub, Int.reduceLT, Int.reduceLE, Nat.reduceSub, Nat.reduceMul, Nat.reduceEqDiff, e2, tgC_over, tgC_over2]
        refine ⟨⟨k + 1, _, g', by omega, rfl, by omega, (by first | with_reducible rfl | assumption | (simp (disch := first | assumption | omega | (simp only [szR, tgC_len, tgC_all] <;> omega) | rfl | decide) only [gen0, gen1, gen2, rulesM, litR, bolR, Nat.reduceAdd, Nat.reduceLeDiff, numR, memR, valR, heapR, updR, intR, decR, extR, slR, segR, thenR, pnR, Int.reduceToNat, Int.reduceAdd, Int.reduceSub, Int.reduceLT, Int.reduceLE, Nat.reduceSub, Nat.reduceMul, Nat.reduceEqDiff, e1] <;> rfl)), (by first | with_reducible rfl | assumption | (simp (disch := first | assumption | omega | (simp only [szR, tgC_len, tgC_all] <;> omega) | rfl | decide) only [gen0, gen1, gen2, rulesM, litR, bolR, Nat.reduceAdd, Nat.reduceLeDiff, numR, memR, valR, heapR, updR, intR, decR, extR, slR, segR, thenR, pnR, Int.reduceToNat, Int.reduceAdd, Int.reduceSub, Int.reduceLT, Int.reduceLE, Nat.reduceSub, Nat.reduceMul, Nat.reduceEqDiff, e2] <;> rfl)), hg', hgo false (by simp [c2]) g' w2 hg' hb', ?_⟩, by first | omega | (simp <;> omega)⟩
        have := hx.trans hx2 (by simp)
        (repeat first | assumption | exact Ext.refl | apply Ext.alloc | apply Ext.drew | (refine Ext.updN ?_ ?_; (focus first | omega | (simp only [szR] <;> omega))) | (refine Ext.updI ?_ ?_; (focus (simp; done))))
    · simp (disch := first | assumption | omega | (simp only [szR, tgC_len, tgC_all] <;> omega) | rfl | decide) only [gen0, gen1, gen2, rulesM, litR, bolR, Nat.reduceAdd, Nat.reduceLeDiff, numR, memR, valR, heapR, updR, intR, decR, extR, slR, segR, thenR, pnR, Int.reduceToNat, Int.reduceAdd, Int.reduceSub, Int.reduceLT, Int.reduceLE, Nat.reduceSub, Nat.reduceMul, Nat.reduceEqDiff, joinBR, h2, tgC_sub]
      refine With_spec hg fun g' w2 hg' hb' hx2 => ?_
      have e1 := hx2.at h1 (by simp)
      have e2 := hx2.at h2 (by simp)
      simp (disch := first | assumption | omega | (simp only [szR, tgC_len, tgC_all] <;> omega) | rfl | decide) only [gen0, gen1, gen2, rulesM, litR, bolR, Nat.reduceAdd, Nat.reduceLeDiff, numR, memR, valR, heapR, updR, intR, decR, extR, slR, segR, thenR, pnR, Int.reduceToNat, Int.reduceAdd, Int.reduceSub, Int.reduceLT, Int.reduceLE, Nat.reduceSub, Nat.reduceMul, Nat.reduceEqDiff, e2, tgC_over, tgC_over2]
      refine ⟨⟨k + 1, _, g', by omega, rfl, by omega, (by first | with_reducible rfl | assumption | (simp (disch := first | assumption | omega | (simp only [szR, tgC_len, tgC_all] <;> omega) | rfl | decide) only [gen0, gen1, gen2, rulesM, litR, bolR, Nat.reduceAdd, Nat.reduceLeDiff, numR, memR, valR, heapR, updR, intR, decR, extR, slR, segR, thenR, pnR, Int.reduceToNat, Int.reduceAdd, Int.reduceSub, Int.reduceLT, Int.reduceLE, Nat.reduceSub, Nat.reduceMul, Nat.reduceEqDiff, e1] <;> rfl)), (by first | with_reducible rfl | assumption | (simp (disch := first | assumption | omega | (simp only [szR, tgC_len, tgC_all] <;> omega) | rfl | decide) only [gen0, gen1, gen2, rulesM, litR, bolR, Nat.reduceAdd, Nat.reduceLeDiff, numR, memR, valR, heapR, updR, intR, decR, extR, slR, segR, thenR, pnR, Int.reduceToNat, Int.reduceAdd, Int.reduceSub, Int.reduceLT, Int.reduceLE, Nat.reduceSub, Nat.reduceMul, Nat.reduceEqDiff, e2] <;> rfl)), hg', hgo false (by simp [c1]) g' w2 hg' hb', ?_⟩, by first | omega | (simp <;> omega)⟩
      have := hx.trans hx2 (by simp)
      (repeat first | assumption | exact Ext.refl | apply Ext.alloc | apply Ext.drew | (refine Ext.updN ?_ ?_; (focus first | omega | (simp only [szR] <;> omega))) | (refine Ext.updI ?_ ?_; (focus (simp; done))))
  · obtain rfl : k = 256 := by omega
    simp (disch := first | assumption | omega | (simp only [szR, tgC_len, tgC_all] <;> omega) | rfl | decide) only [gen0, gen1, gen2, rulesM, litR, bolR, Nat.reduceAdd, Nat.reduceLeDiff, numR, memR, valR, heapR, updR, intR, decR, extR, slR, segR, thenR, pnR, Int.reduceToNat, Int.reduceAdd, Int.reduceSub, Int.reduceLT, Int.reduceLE, Nat.reduceSub, Nat.reduceMul, Nat.reduceEqDiff, h1, h2, tgC_sub, tgC_over, tgC_over2]
    refine hK g _ hg (fun j hj => ?_) (by (repeat first | assumption | exact Ext.refl | apply Ext.alloc | apply Ext.drew | (refine Ext.updN ?_ ?_; (focus first | omega | (simp only [szR] <;> omega))) | (refine Ext.updI ?_ ?_; (focus (simp; done)))))
    rw [hb j hj, Bool.eq_iff_iff]
    simp only [decide_eq_true_eq]
    omega
end Go.Proofs.Ytgnibcaflidjmaa
