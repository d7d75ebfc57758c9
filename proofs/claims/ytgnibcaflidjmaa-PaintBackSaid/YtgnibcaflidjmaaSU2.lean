/- A heap of numbers; a range turned round; conditions: those of each theorem. -/
import Derived.Test.YtgnibcaflidjmaaSU1
namespace Go.Proofs.Ytgnibcaflidjmaa
open Go.Fx
set_option maxRecDepth 100000
set_option linter.unusedSimpArgs false
set_option linter.unusedVariables false
theorem lessK {w : World} {x y : Nat} {K : Value → World → Prop} (h1 : x < y → K (.bool true) w) (h2 : y ≤ x → K (.bool false) w) : callsK Try.prog 103 #[.int .u64 (x : Nat), .int .u64 (y : Nat)] w K := cmpLess_spec (by
  by_cases h : x < y
  · rw [decide_eq_true h]
    exact h1 h
  · rw [decide_eq_false h]
    exact h2 (by omega))
/-- a heap from lo on. -/
def Hp (xs : List Nat) (fi lo hi : Nat) : Prop := ∀ p, lo ≤ p → ∀ c, (c = 2 * p + 1 ∨ c = 2 * p + 2) → c < hi → V xs (fi + c) ≤ V xs (fi + p)
/-- a heap but for the number at r, which may belong further down. -/
def HpB (xs : List Nat) (fi lo hi r : Nat) : Prop :=
  (∀ p, lo ≤ p → p ≠ r → ∀ c, (c = 2 * p + 1 ∨ c = 2 * p + 2) → c < hi → V xs (fi + c) ≤ V xs (fi + p)) ∧
  (∀ q, lo ≤ q → (r = 2 * q + 1 ∨ r = 2 * q + 2) → ∀ c, (c = 2 * r + 1 ∨ c = 2 * r + 2) → c < hi → V xs (fi + c) ≤ V xs (fi + q))
theorem HpB.start {xs : List Nat} {fi lo hi : Nat} (h : Hp xs fi (lo + 1) hi) : HpB xs fi lo hi lo := ⟨fun p h1 h2 => h p (by omega), fun q h1 h2 => by omega⟩
theorem HpB.done {xs : List Nat} {fi lo hi r : Nat} (h : HpB xs fi lo hi r) (h1 : ∀ c, (c = 2 * r + 1 ∨ c = 2 * r + 2) → c < hi → V xs (fi + c) ≤ V xs (fi + r)) : Hp xs fi lo hi := by
  intro p hp
  by_cases e : p = r
  · subst e
    exact h1
  · exact h.1 p hp e
theorem HpB.step {xs ys : List Nat} {fi lo hi r q : Nat} (h : HpB xs fi lo hi r) (hr : lo ≤ r) (hq : q = 2 * r + 1 ∨ q = 2 * r + 2) (hqh : q < hi) (hmax : ∀ c, (c = 2 * r + 1 ∨ c = 2 * r + 2) → c < hi → V xs (fi + c) ≤ V xs (fi + q)) (hlt : V xs (fi + r) < V xs (fi + q)) (hx : Exch (fi + r) (fi + q) xs ys) : HpB ys fi lo hi q := by
  have hy : ∀ k, V ys (fi + k) = if k = q then V xs (fi + r) else if k = r then V xs (fi + q) else V xs (fi + k) := by
    intro k
    rw [hx.2 (fi + k)]
    by_cases c1 : k = q
    · rw [if_pos c1, if_pos (by omega)]
    · rw [if_neg c1, if_neg (by omega)]
      by_cases c2 : k = r
      · rw [if_pos c2, if_pos (by omega)]
      · rw [if_neg c2, if_neg (by omega)]
  refine ⟨fun p hp hpq c hc hch => ?_, fun q' hq' hqq c hc hch => ?_⟩
  · rw [hy c, hy p, if_neg hpq]
    by_cases e : p = r
    · subst e
      rw [if_pos rfl]
      by_cases c1 : c = q
      · rw [if_pos c1]
        omega
      · rw [if_neg c1, if_neg (by omega)]
        exact hmax c hc hch
    · rw [if_neg e, if_neg (show ¬ c = q by omega)]
      by_cases c2 : c = r
      · rw [if_pos c2]
        exact h.2 p hp (by omega) q hq hqh
      · rw [if_neg c2]
        exact h.1 p hp e c hc hch
  · have e : q' = r := by omega
    subst e
    rw [hy c, hy q', if_neg (show ¬ c = q by omega), if_neg (show ¬ c = q' by omega), if_neg (show ¬ q' = q by omega), if_pos rfl]
    exact h.1 q (by omega) (by omega) c hc hch
theorem Hp.root {xs : List Nat} {fi hi : Nat} (h : Hp xs fi 0 hi) : ∀ t, t < hi → V xs (fi + t) ≤ V xs (fi + 0) := by
  intro t
  induction t using Nat.strongRecOn with
  | _ t ih =>
    intro ht
    by_cases e : t = 0
    · subst e
      exact Nat.le_refl _
    · exact Nat.le_trans (h ((t - 1) / 2) (Nat.zero_le _) t (by omega) ht) (ih ((t - 1) / 2) (by omega) (by omega))
theorem siftDown_spec {w : World} {g n c lo hi fi : Nat} {xs : List Nat} (h : SU w g n xs) (hh : fi + hi ≤ n) (hlo : lo ≤ n) (hn : n < 1000000) (hH : Hp xs fi (lo + 1) hi) {K : Value → World → Prop} (hK : ∀ ys w', SU w' g n ys → Sw fi (fi + hi) xs ys → Hp ys fi lo hi → Ext [g] w w' → K (.tuple #[]) w') :
    callsK Try.prog 109 #[.slice (some ⟨g, 0, none⟩) n c, .int .i64 (lo : Nat), .int .i64 (hi : Nat), .int .i64 (fi : Nat)] w K := by
  apply F109_ok
  unfold F109
  refine loopT.intro (fun st w' => ∃ (r : Nat) (ys : List Nat), lo ≤ r ∧ r ≤ n ∧ st = [.int .i64 (r : Nat)] ∧ SU w' g n ys ∧ Sw fi (fi + hi) xs ys ∧ HpB ys fi lo hi r ∧ Ext [g] w w')
    (fun st _ => match st with
      | [.int _ z] => n - z.toNat
      | _ => 0) ⟨lo, xs, Nat.le_refl _, hlo, rfl, h, Sw.refl _ _ _, HpB.start hH, Ext.refl⟩ ?_
  rintro st w1 ⟨r, ys, hlr, hr, rfl, h1, hp1, hB1, hx1⟩ _
  have e1 : (2 : Int) * (r : Int) = ((2 * r : Nat) : Int) := by omega
  have e2 : ((2 * r : Nat) : Int) + 1 = ((2 * r + 1 : Nat) : Int) := by omega
  obtain ⟨k, hk⟩ : ∃ k, k = 2 * r + 1 := ⟨_, rfl⟩
  rw [← hk] at e2
  by_cases hkh : hi ≤ k
  · have e3 : decide (((hi : Nat) : Int) ≤ ((k : Nat) : Int)) = true := decide_eq_true (by omega)
    simp (disch := first | assumption | omega | (simp only [szR] <;> omega) | rfl | decide) only [gen0, gen1, gen2, rulesZ, litR, bolR, Nat.reduceAdd, Nat.reduceLeDiff, numR, memR, valR, heapR, updR, intR, decR, extR, slR, segR, thenR, pnR, Int.reduceToNat, Int.reduceAdd, Int.reduceSub, Int.reduceLT, Int.reduceLE, Nat.reduceSub, Nat.reduceMul, Nat.reduceEqDiff, e1, e2, e3]
    exact hK ys w1 h1 hp1 (hB1.done fun c hc hch => by omega) hx1
  have e3 : decide (((hi : Nat) : Int) ≤ ((k : Nat) : Int)) = false := decide_eq_false (by omega)
  simp (disch := first | assumption | omega | (simp only [szR] <;> omega) | rfl | decide) only [gen0, gen1, gen2, rulesZ, litR, bolR, Nat.reduceAdd, Nat.reduceLeDiff, numR, memR, valR, heapR, updR, intR, decR, extR, slR, segR, thenR, pnR, Int.reduceToNat, Int.reduceAdd, Int.reduceSub, Int.reduceLT, Int.reduceLE, Nat.reduceSub, Nat.reduceMul, Nat.reduceEqDiff, e1, e2, e3]
  refine joinL.intro fun J2 hJ2 => ?_
  obtain ⟨cur, hb, hl, hc⟩ := h1.at'
  have hlen := h1.len
  have hgo : ∀ (q : Nat) w2, (q = 2 * r + 1 ∨ q = 2 * r + 2) → q < hi → (∀ c, (c = 2 * r + 1 ∨ c = 2 * r + 2) → c < hi → V ys (fi + c) ≤ V ys (fi + q)) → SU w2 g n ys → w2.heap[g]? = some (.cells cur.toArray 28 (0, 0)) → Ext [g] w w2 → J2 [.int .i64 (q : Nat)] w2 := by
    intro q w2 hq1 hq2 hmax h2 hb2 hx2
    apply hJ2
    intro _
    clear hJ2
    have f1 : ((fi : Nat) : Int) + (r : Int) = ((fi + r : Nat) : Int) := by omega
    have f2 : ((fi : Nat) : Int) + (q : Int) = ((fi + q : Nat) : Int) := by omega
    have g1 := hc (fi + r) (by omega)
    have g2 := hc (fi + q) (by omega)
    rw [drewK_eq]
    simp (disch := first | assumption | omega | (simp only [szR] <;> omega) | rfl | decide) only [gen0, gen1, gen2, rulesZ, litR, bolR, Nat.reduceAdd, Nat.reduceLeDiff, numR, memR, valR, heapR, updR, intR, decR, extR, slR, segR, thenR, pnR, Int.reduceToNat, Int.reduceAdd, Int.reduceSub, Int.reduceLT, Int.reduceLE, Nat.reduceSub, Nat.reduceMul, Nat.reduceEqDiff, f1, f2, hb2, g1, g2]
    refine lessK (fun hlt => ?_) (fun hge => ?_)
    · rw [V_get (by omega), V_get (by omega)] at hlt
      simp (disch := first | assumption | omega | (simp only [szR] <;> omega) | rfl | decide) only [gen0, gen1, gen2, rulesZ, litR, bolR, Nat.reduceAdd, Nat.reduceLeDiff, numR, memR, valR, heapR, updR, intR, decR, extR, slR, segR, thenR, pnR, Int.reduceToNat, Int.reduceAdd, Int.reduceSub, Int.reduceLT, Int.reduceLE, Nat.reduceSub, Nat.reduceMul, Nat.reduceEqDiff, Bool.not_true]
      refine joinL.intro fun J4 hJ4 => ?_
      rw [drewK_eq]
      simp (disch := first | assumption | omega | (simp only [szR] <;> omega) | rfl | decide) only [gen0, gen1, gen2, rulesZ, litR, bolR, Nat.reduceAdd, Nat.reduceLeDiff, numR, memR, valR, heapR, updR, intR, decR, extR, slR, segR, thenR, pnR, Int.reduceToNat, Int.reduceAdd, Int.reduceSub, Int.reduceLT, Int.reduceLE, Nat.reduceSub, Nat.reduceMul, Nat.reduceEqDiff, f1, f2, hb2, g1, g2, and_self]
      obtain ⟨ws, h3, hp3, hx3⟩ := SU.swap h2.drew.drew hb2 hl hc (i := fi + r) (j := fi + q) (by omega) (by omega)
      apply hJ4
      intro _
      simp (disch := first | assumption | omega | (simp only [szR] <;> omega) | rfl | decide) only [gen0, gen1, gen2, rulesZ, litR, bolR, Nat.reduceAdd, Nat.reduceLeDiff, numR, memR, valR, heapR, updR, intR, decR, extR, slR, segR, thenR, pnR, Int.reduceToNat, Int.reduceAdd, Int.reduceSub, Int.reduceLT, Int.reduceLE, Nat.reduceSub, Nat.reduceMul, Nat.reduceEqDiff]
      exact ⟨⟨q, ws, by omega, by omega, rfl, h3, hp1.trans (hp3.sw (by omega) (by omega)), hB1.step hlr hq1 hq2 hmax hlt hp3, xG (xE (xE hx2 (dE _)) (dE _)) hx3⟩, by omega⟩
    · rw [V_get (by omega), V_get (by omega)] at hge
      simp (disch := first | assumption | omega | (simp only [szR] <;> omega) | rfl | decide) only [gen0, gen1, gen2, rulesZ, litR, bolR, Nat.reduceAdd, Nat.reduceLeDiff, numR, memR, valR, heapR, updR, intR, decR, extR, slR, segR, thenR, pnR, Int.reduceToNat, Int.reduceAdd, Int.reduceSub, Int.reduceLT, Int.reduceLE, Nat.reduceSub, Nat.reduceMul, Nat.reduceEqDiff, Bool.not_false]
      exact hK ys _ h2.drew hp1 (hB1.done fun c hc hch => Nat.le_trans (hmax c hc hch) hge) (xE hx2 (dE _))
  clear hJ2
  rw [drewK_eq]
  have f0 : ((k : Nat) : Int) + 1 = ((k + 1 : Nat) : Int) := by omega
  by_cases hk1 : k + 1 < hi
  · have e4 : decide (((k + 1 : Nat) : Int) < ((hi : Nat) : Int)) = true := decide_eq_true (by omega)
    have f1 : ((fi : Nat) : Int) + (k : Int) = ((fi + k : Nat) : Int) := by omega
    have f2 : ((fi + k : Nat) : Int) + 1 = ((fi + k + 1 : Nat) : Int) := by omega
    have g1 := hc (fi + k) (by omega)
    have g2 := hc (fi + k + 1) (by omega)
    simp (disch := first | assumption | omega | (simp only [szR] <;> omega) | rfl | decide) only [gen0, gen1, gen2, rulesZ, litR, bolR, Nat.reduceAdd, Nat.reduceLeDiff, numR, memR, valR, heapR, updR, intR, decR, extR, slR, segR, thenR, pnR, Int.reduceToNat, Int.reduceAdd, Int.reduceSub, Int.reduceLT, Int.reduceLE, Nat.reduceSub, Nat.reduceMul, Nat.reduceEqDiff, joinBR, f0, e4, f1, f2, hb, g1, g2]
    refine lessK (fun hlt => ?_) (fun hge => ?_)
    · rw [V_get (by omega), V_get (by omega)] at hlt
      simp (disch := first | assumption | omega | (simp only [szR] <;> omega) | rfl | decide) only [gen0, gen1, gen2, rulesZ, litR, bolR, Nat.reduceAdd, Nat.reduceLeDiff, numR, memR, valR, heapR, updR, intR, decR, extR, slR, segR, thenR, pnR, Int.reduceToNat, Int.reduceAdd, Int.reduceSub, Int.reduceLT, Int.reduceLE, Nat.reduceSub, Nat.reduceMul, Nat.reduceEqDiff, joinBR, f0]
      exact hgo (k + 1) _ (by omega) (by omega) (fun c hc hch => by
        rcases (show c = k ∨ c = k + 1 by omega) with e | e
        · rw [e]
          exact Nat.le_of_lt hlt
        · rw [e]
          exact Nat.le_refl _) h1.drew hb (xE hx1 (dE _))
    · rw [V_get (by omega), V_get (by omega)] at hge
      simp (disch := first | assumption | omega | (simp only [szR] <;> omega) | rfl | decide) only [gen0, gen1, gen2, rulesZ, litR, bolR, Nat.reduceAdd, Nat.reduceLeDiff, numR, memR, valR, heapR, updR, intR, decR, extR, slR, segR, thenR, pnR, Int.reduceToNat, Int.reduceAdd, Int.reduceSub, Int.reduceLT, Int.reduceLE, Nat.reduceSub, Nat.reduceMul, Nat.reduceEqDiff, joinBR, f0]
      exact hgo k _ (by omega) (by omega) (fun c hc hch => by
        rcases (show c = k ∨ c = k + 1 by omega) with e | e
        · rw [e]
          exact Nat.le_refl _
        · rw [e]
          exact hge) h1.drew hb (xE hx1 (dE _))
  · have e4 : decide (((k + 1 : Nat) : Int) < ((hi : Nat) : Int)) = false := decide_eq_false (by omega)
    simp (disch := first | assumption | omega | (simp only [szR] <;> omega) | rfl | decide) only [gen0, gen1, gen2, rulesZ, litR, bolR, Nat.reduceAdd, Nat.reduceLeDiff, numR, memR, valR, heapR, updR, intR, decR, extR, slR, segR, thenR, pnR, Int.reduceToNat, Int.reduceAdd, Int.reduceSub, Int.reduceLT, Int.reduceLE, Nat.reduceSub, Nat.reduceMul, Nat.reduceEqDiff, joinBR, f0, e4]
    exact hgo k _ (by omega) (by omega) (fun c hc hch => by
      rw [show c = k by omega]
      exact Nat.le_refl _) h1.drew hb (xE hx1 (dE _))
theorem heapSort_spec {w : World} {g n c a b : Nat} {xs : List Nat} (h : SU w g n xs) (hab : a < b) (hbn : b ≤ n) (hn : n < 1000000) {K : Value → World → Prop} (hK : ∀ ys w', SU w' g n ys → Sw a b xs ys → Asc ys a b → Ext [g] w w' → K (.tuple #[]) w') :
    callsK Try.prog 98 #[.slice (some ⟨g, 0, none⟩) n c, .int .i64 (a : Nat), .int .i64 (b : Nat)] w K := by
  apply F98_ok
  unfold F98
  obtain ⟨m, hm⟩ : ∃ m, b = a + m := ⟨b - a, by omega⟩
  subst hm
  have e1 : ((a + m : Nat) : Int) - (a : Int) = (m : Int) := by omega
  have e2 : ((m : Nat) : Int) - 1 = ((m - 1 : Nat) : Int) := by omega
  have e3 : ((m - 1 : Nat) : Int).tdiv 2 = (((m - 1) / 2 : Nat) : Int) := by
    rw [Int.tdiv_eq_ediv_of_nonneg (by omega)]
    omega
  have e4 : ((m - 1 : Nat) : Int) / 2 = (((m - 1) / 2 : Nat) : Int) := by omega
  simp (disch := first | assumption | omega | (simp only [szR] <;> omega) | rfl | decide) only [gen0, gen1, gen2, rulesZ, litR, bolR, Nat.reduceAdd, Nat.reduceLeDiff, numR, memR, valR, heapR, updR, intR, decR, extR, slR, segR, thenR, pnR, Int.reduceToNat, Int.reduceAdd, Int.reduceSub, Int.reduceLT, Int.reduceLE, Nat.reduceSub, Nat.reduceMul, Nat.reduceEqDiff, e1, e2, e3, e4]
  refine loopT.intro (fun st w' => ∃ (z : Int) (ys : List Nat), -1 ≤ z ∧ z ≤ m ∧ st = [.int .i64 z] ∧ SU w' g n ys ∧ Sw a (a + m) xs ys ∧ Hp ys a (z + 1).toNat m ∧ Ext [g] w w')
    (fun st _ => match st with
      | [.int _ z] => (z + 1).toNat
      | _ => 0) ⟨(((m - 1) / 2 : Nat) : Int), xs, by omega, by omega, rfl, h, Sw.refl _ _ _, fun p h1 c h2 h3 => by omega, Ext.refl⟩ ?_
  rintro st w1 ⟨z, ys, hz1, hz2, rfl, h1, hp1, hH1, hx1⟩ _
  by_cases hz : 0 ≤ z
  · obtain ⟨i, rfl⟩ : ∃ i : Nat, z = i := ⟨z.toNat, by omega⟩
    have e5 : decide ((0 : Int) ≤ ((i : Nat) : Int)) = true := decide_eq_true (by omega)
    simp (disch := first | assumption | omega | (simp only [szR] <;> omega) | rfl | decide) only [gen0, gen1, gen2, rulesZ, litR, bolR, Nat.reduceAdd, Nat.reduceLeDiff, numR, memR, valR, heapR, updR, intR, decR, extR, slR, segR, thenR, pnR, Int.reduceToNat, Int.reduceAdd, Int.reduceSub, Int.reduceLT, Int.reduceLE, Nat.reduceSub, Nat.reduceMul, Nat.reduceEqDiff, e5]
    refine siftDown_spec h1 (by omega) (by omega) hn (by rw [show ((i : Nat) : Int) + 1 = ((i + 1 : Nat) : Int) by omega, Int.toNat_natCast] at hH1; exact hH1) fun zs w2 h2 hp2 hH2 hx2 => ?_
    simp (disch := first | assumption | omega | (simp only [szR] <;> omega) | rfl | decide) only [gen0, gen1, gen2, rulesZ, litR, bolR, Nat.reduceAdd, Nat.reduceLeDiff, numR, memR, valR, heapR, updR, intR, decR, extR, slR, segR, thenR, pnR, Int.reduceToNat, Int.reduceAdd, Int.reduceSub, Int.reduceLT, Int.reduceLE, Nat.reduceSub, Nat.reduceMul, Nat.reduceEqDiff]
    exact ⟨⟨(i : Int) - 1, zs, by omega, by omega, rfl, h2, hp1.trans hp2, by rw [show (((i : Nat) : Int) - 1 + 1).toNat = i by omega]; exact hH2, xG hx1 hx2⟩, by omega⟩
  have e5 : decide ((0 : Int) ≤ z) = false := decide_eq_false hz
  simp (disch := first | assumption | omega | (simp only [szR] <;> omega) | rfl | decide) only [gen0, gen1, gen2, rulesZ, litR, bolR, Nat.reduceAdd, Nat.reduceLeDiff, numR, memR, valR, heapR, updR, intR, decR, extR, slR, segR, thenR, pnR, Int.reduceToNat, Int.reduceAdd, Int.reduceSub, Int.reduceLT, Int.reduceLE, Nat.reduceSub, Nat.reduceMul, Nat.reduceEqDiff, e5, e2]
  clear e5
  refine loopT.intro (fun st w' => ∃ (z : Int) (ys : List Nat), -1 ≤ z ∧ z ≤ m - 1 ∧ st = [.int .i64 z] ∧ SU w' g n ys ∧ Sw a (a + m) xs ys ∧ Hp ys a 0 (z + 1).toNat ∧ (∀ k, (z + 1).toNat ≤ k → k + 1 < m → V ys (a + k) ≤ V ys (a + k + 1)) ∧ (∀ j k, j < (z + 1).toNat → (z + 1).toNat ≤ k → k < m → V ys (a + j) ≤ V ys (a + k)) ∧ Ext [g] w w')
    (fun st _ => match st with
      | [.int _ z] => (z + 1).toNat
      | _ => 0) ⟨((m - 1 : Nat) : Int), ys, by omega, by omega, rfl, h1, hp1, by rw [show (((m - 1 : Nat) : Int) + 1).toNat = m by omega]; rw [show (z + 1).toNat = 0 by omega] at hH1; exact hH1, fun k k1 k2 => by omega, fun j k k1 k2 k3 => by omega, hx1⟩ ?_
  rintro st w2 ⟨z2, zs, hz3, hz4, rfl, h2, hp2, hH2, hT2, hC2, hx2⟩ _
  by_cases hz5 : 0 ≤ z2
  · obtain ⟨i, rfl⟩ : ∃ i : Nat, z2 = i := ⟨z2.toNat, by omega⟩
    have e5 : decide ((0 : Int) ≤ ((i : Nat) : Int)) = true := decide_eq_true (by omega)
    obtain ⟨cur, hb, hl, hc⟩ := h2.at'
    have hlen := h2.len
    have f1 : ((a : Nat) : Int) + (i : Int) = ((a + i : Nat) : Int) := by omega
    have g1 := hc (a + i) (by omega)
    have g2 := hc a (by omega)
    simp (disch := first | assumption | omega | (simp only [szR] <;> omega) | rfl | decide) only [gen0, gen1, gen2, rulesZ, litR, bolR, Nat.reduceAdd, Nat.reduceLeDiff, numR, memR, valR, heapR, updR, intR, decR, extR, slR, segR, thenR, pnR, Int.reduceToNat, Int.reduceAdd, Int.reduceSub, Int.reduceLT, Int.reduceLE, Nat.reduceSub, Nat.reduceMul, Nat.reduceEqDiff, e5]
    refine joinL.intro fun J4 hJ4 => ?_
    rw [drewK_eq]
    simp (disch := first | assumption | omega | (simp only [szR] <;> omega) | rfl | decide) only [gen0, gen1, gen2, rulesZ, litR, bolR, Nat.reduceAdd, Nat.reduceLeDiff, numR, memR, valR, heapR, updR, intR, decR, extR, slR, segR, thenR, pnR, Int.reduceToNat, Int.reduceAdd, Int.reduceSub, Int.reduceLT, Int.reduceLE, Nat.reduceSub, Nat.reduceMul, Nat.reduceEqDiff, f1, hb, g1, g2, and_self]
    obtain ⟨ws, h3, hp3, hx3⟩ := SU.swap h2.drew hb hl hc (i := a) (j := a + i) (by omega) (by omega)
    apply hJ4
    intro _
    simp (disch := first | assumption | omega | (simp only [szR] <;> omega) | rfl | decide) only [gen0, gen1, gen2, rulesZ, litR, bolR, Nat.reduceAdd, Nat.reduceLeDiff, numR, memR, valR, heapR, updR, intR, decR, extR, slR, segR, thenR, pnR, Int.reduceToNat, Int.reduceAdd, Int.reduceSub, Int.reduceLT, Int.reduceLE, Nat.reduceSub, Nat.reduceMul, Nat.reduceEqDiff]
    rw [show (((i : Nat) : Int) + 1).toNat = i + 1 by omega] at hH2 hT2 hC2
    have hv := hp3.2
    have hva : V ws (a + i) = V zs a := by rw [hv, if_pos rfl]
    have hv0 : V ws a = V zs (a + i) := by
      rw [hv]
      by_cases e : i = 0
      · subst e
        rw [if_pos (by omega)]
        rfl
      · rw [if_neg (by omega), if_pos rfl]
    have hvk : ∀ k, k ≠ a → k ≠ a + i → V ws k = V zs k := fun k k1 k2 => by rw [hv, if_neg k2, if_neg k1]
    have hrt := Hp.root hH2
    refine siftDown_spec (lo := 0) h3 (by omega) (by omega) hn (fun p p1 c p2 p3 => by
      rw [hvk (a + c) (by omega) (by omega), hvk (a + p) (by omega) (by omega)]
      exact hH2 p (by omega) c p2 (by omega)) fun us w4 h4 hp4 hH4 hx4 => ?_
    simp (disch := first | assumption | omega | (simp only [szR] <;> omega) | rfl | decide) only [gen0, gen1, gen2, rulesZ, litR, bolR, Nat.reduceAdd, Nat.reduceLeDiff, numR, memR, valR, heapR, updR, intR, decR, extR, slR, segR, thenR, pnR, Int.reduceToNat, Int.reduceAdd, Int.reduceSub, Int.reduceLT, Int.reduceLE, Nat.reduceSub, Nat.reduceMul, Nat.reduceEqDiff]
    have hob : ∀ k, i ≤ k → V us (a + k) = V ws (a + k) := fun k hk => hp4.out (a + k) (.inr (by omega))
    have hT4 : ∀ k, i ≤ k → k + 1 < m → V us (a + k) ≤ V us (a + k + 1) := by
      intro k k1 k2
      rw [hob k k1, show a + k + 1 = a + (k + 1) by omega, hob (k + 1) (by omega)]
      by_cases e : k = i
      · subst e
        rw [hva, hvk (a + (k + 1)) (by omega) (by omega)]
        exact hC2 0 (k + 1) (by omega) (by omega) (by omega)
      · rw [hvk (a + k) (by omega) (by omega), hvk (a + (k + 1)) (by omega) (by omega)]
        exact hT2 k (by omega) k2
    have hC4 : ∀ j k, j < i → i ≤ k → k < m → V us (a + j) ≤ V us (a + k) := by
      intro j k k1 k2 k3
      rw [hob k k2]
      refine hp4.pres (fun x => x ≤ V ws (a + k)) (fun t t1 t2 => ?_) (a + j) (by omega) (by omega)
      obtain ⟨t', rfl⟩ : ∃ t', t = a + t' := ⟨t - a, by omega⟩
      have hz : ∃ s2, s2 ≤ i ∧ V ws (a + t') = V zs (a + s2) := by
        by_cases e : t' = 0
        · subst e
          exact ⟨i, Nat.le_refl _, hv0⟩
        · exact ⟨t', by omega, hvk _ (by omega) (by omega)⟩
      obtain ⟨s2, ht2, e2⟩ := hz
      show V ws (a + t') ≤ V ws (a + k)
      rw [e2]
      by_cases e : k = i
      · subst e
        rw [hva]
        exact hrt s2 (by omega)
      · rw [hvk (a + k) (by omega) (by omega)]
        exact hC2 s2 k (by omega) (by omega) k3
    exact ⟨⟨(i : Int) - 1, us, by omega, by omega, rfl, h4, (hp2.trans (hp3.sw (by omega) (by omega))).trans (hp4.mono (Nat.le_refl _) (by omega)), by rw [show (((i : Nat) : Int) - 1 + 1).toNat = i by omega]; exact hH4, by rw [show (((i : Nat) : Int) - 1 + 1).toNat = i by omega]; exact hT4, by rw [show (((i : Nat) : Int) - 1 + 1).toNat = i by omega]; exact hC4, xG (xG (xE hx2 (dE _)) hx3) hx4⟩, by omega⟩
  · have e5 : decide ((0 : Int) ≤ z2) = false := decide_eq_false hz5
    simp (disch := first | assumption | omega | (simp only [szR] <;> omega) | rfl | decide) only [gen0, gen1, gen2, rulesZ, litR, bolR, Nat.reduceAdd, Nat.reduceLeDiff, numR, memR, valR, heapR, updR, intR, decR, extR, slR, segR, thenR, pnR, Int.reduceToNat, Int.reduceAdd, Int.reduceSub, Int.reduceLT, Int.reduceLE, Nat.reduceSub, Nat.reduceMul, Nat.reduceEqDiff, e5]
    refine hK zs w2 h2 hp2 (fun k k1 k2 => ?_) hx2
    obtain ⟨k', rfl⟩ : ∃ k', k = a + k' := ⟨k - a, by omega⟩
    exact hT2 k' (by omega) (by omega)
theorem reverse_spec {w : World} {g n c a b : Nat} {xs : List Nat} (h : SU w g n xs) (hab : a < b) (hbn : b ≤ n) (hn : n < 1000000) {K : Value → World → Prop} (hK : ∀ ys w', SU w' g n ys → Sw a b xs ys → Ext [g] w w' → K (.tuple #[]) w') :
    callsK Try.prog 101 #[.slice (some ⟨g, 0, none⟩) n c, .int .i64 (a : Nat), .int .i64 (b : Nat)] w K := by
  apply F101_ok
  unfold F101
  have e1 : ((b : Nat) : Int) - 1 = ((b - 1 : Nat) : Int) := by omega
  simp (disch := first | assumption | omega | (simp only [szR] <;> omega) | rfl | decide) only [gen0, gen1, gen2, rulesZ, litR, bolR, Nat.reduceAdd, Nat.reduceLeDiff, numR, memR, valR, heapR, updR, intR, decR, extR, slR, segR, thenR, pnR, Int.reduceToNat, Int.reduceAdd, Int.reduceSub, Int.reduceLT, Int.reduceLE, Nat.reduceSub, Nat.reduceMul, Nat.reduceEqDiff, e1]
  refine loopT.intro (fun st w' => ∃ (i j : Nat) (ys : List Nat), a ≤ i ∧ i ≤ n ∧ j < b ∧ st = [.int .i64 (i : Nat), .int .i64 (j : Nat)] ∧ SU w' g n ys ∧ Sw a b xs ys ∧ Ext [g] w w')
    (fun st _ => match st with
      | [.int _ y, .int _ z] => z.toNat + 1 - y.toNat
      | _ => 0) ⟨a, b - 1, xs, by omega, by omega, by omega, rfl, h, Sw.refl _ _ _, Ext.refl⟩ ?_
  rintro st w1 ⟨i, j, ys, hai, hi, hj, rfl, h1, hp1, hx1⟩ _
  by_cases hij : i < j
  · have e2 : decide (((i : Nat) : Int) < ((j : Nat) : Int)) = true := decide_eq_true (by omega)
    have e3 : ((i : Nat) : Int) + 1 = ((i + 1 : Nat) : Int) := by omega
    have e4 : ((j : Nat) : Int) - 1 = ((j - 1 : Nat) : Int) := by omega
    obtain ⟨cur, hb, hl, hc⟩ := h1.at'
    have hlen := h1.len
    have g1 := hc i (by omega)
    have g2 := hc j (by omega)
    simp (disch := first | assumption | omega | (simp only [szR] <;> omega) | rfl | decide) only [gen0, gen1, gen2, rulesZ, litR, bolR, Nat.reduceAdd, Nat.reduceLeDiff, numR, memR, valR, heapR, updR, intR, decR, extR, slR, segR, thenR, pnR, Int.reduceToNat, Int.reduceAdd, Int.reduceSub, Int.reduceLT, Int.reduceLE, Nat.reduceSub, Nat.reduceMul, Nat.reduceEqDiff, e2]
    refine joinL.intro fun J2 hJ2 => ?_
    rw [drewK_eq]
    simp (disch := first | assumption | omega | (simp only [szR] <;> omega) | rfl | decide) only [gen0, gen1, gen2, rulesZ, litR, bolR, Nat.reduceAdd, Nat.reduceLeDiff, numR, memR, valR, heapR, updR, intR, decR, extR, slR, segR, thenR, pnR, Int.reduceToNat, Int.reduceAdd, Int.reduceSub, Int.reduceLT, Int.reduceLE, Nat.reduceSub, Nat.reduceMul, Nat.reduceEqDiff, hb, g1, g2, and_self]
    obtain ⟨ws, h3, hp3, hx3⟩ := SU.swap h1.drew hb hl hc (i := i) (j := j) (by omega) (by omega)
    apply hJ2
    intro _
    simp (disch := first | assumption | omega | (simp only [szR] <;> omega) | rfl | decide) only [gen0, gen1, gen2, rulesZ, litR, bolR, Nat.reduceAdd, Nat.reduceLeDiff, numR, memR, valR, heapR, updR, intR, decR, extR, slR, segR, thenR, pnR, Int.reduceToNat, Int.reduceAdd, Int.reduceSub, Int.reduceLT, Int.reduceLE, Nat.reduceSub, Nat.reduceMul, Nat.reduceEqDiff, e3, e4]
    exact ⟨⟨i + 1, j - 1, ws, by omega, by omega, by omega, rfl, h3, hp1.trans (hp3.sw (by omega) (by omega)), xG (xE hx1 (dE _)) hx3⟩, by omega⟩
  · have e2 : decide (((i : Nat) : Int) < ((j : Nat) : Int)) = false := decide_eq_false (by omega)
    simp (disch := first | assumption | omega | (simp only [szR] <;> omega) | rfl | decide) only [gen0, gen1, gen2, rulesZ, litR, bolR, Nat.reduceAdd, Nat.reduceLeDiff, numR, memR, valR, heapR, updR, intR, decR, extR, slR, segR, thenR, pnR, Int.reduceToNat, Int.reduceAdd, Int.reduceSub, Int.reduceLT, Int.reduceLE, Nat.reduceSub, Nat.reduceMul, Nat.reduceEqDiff, e2]
    exact hK ys w1 h1 hp1 hx1
end Go.Proofs.Ytgnibcaflidjmaa
