/- What lines stand for, and where marks are; conditions: those of each theorem. -/
import Derived.Test.YtobkjnmdbkieeaaDoorAS9
namespace Go.Proofs.YtobkjnmdbkieeaaDoor
open Go.Fx
set_option maxRecDepth 100000
set_option linter.unusedSimpArgs false
set_option linter.unusedVariables false
/-- a line stands for these instructions' texts. -/
def StandsOK (t : List UInt8) (l : List (List UInt8)) : Prop := ∀ (w : World) (K : Value → World → Prop), Gm w → (∀ v w', RowsAt w' v 1 (l.map sC) → Ext [] w w' → (∀ b, blockOf v = some b → w.heap.size ≤ b) → K v w') → callsK Tryd.prog 34 #[.string ⟨t.toArray⟩] w K
/-- a line that is an instruction, or none. -/
def Plain (t : List UInt8) : Prop := t ≠ [110, 111, 112] ∧ t ≠ [114, 101, 116] ∧ ((Lib.cut t [32]).2.2 = false ∨ ((Lib.cut t [32]).1 ≠ [106] ∧ (Lib.cut t [32]).1 ≠ [109, 118] ∧ (Lib.cut t [32]).1 ≠ [108, 105]))
theorem one_text {w : World} {t : List UInt8} {K : Value → World → Prop} (hK : ∀ v w', RowsAt w' v 1 ([t].map sC) → Ext [] w w' → (∀ b, blockOf v = some b → w.heap.size ≤ b) → K v w') : K (.slice (some ⟨w.heap.size, 0, none⟩) 1 1) (w.alloc (.cells [.string ⟨t.toArray⟩].toArray 9)) :=
  hK _ _ (OwnR.fresh (base := 0) rfl rfl (Nat.zero_le _)).rows (by (repeat first | assumption | exact Ext.refl | apply Ext.alloc | apply Ext.drew | (refine Ext.updN ?_ ?_; (focus first | omega | (simp only [szR] <;> omega))) | (refine Ext.updI ?_ ?_; (focus (simp; done))))) fun b hb => Nat.le_of_eq (Option.some.inj hb)
theorem stands_plain {t : List UInt8} (hs : t.length ≤ 1000000) (h : Plain t) : StandsOK t [t] := by
  intro w K hg hK
  obtain ⟨h1, h2, h3⟩ := h
  apply F34_ok
  unfold F34
  have E1 := eqlS t [110, 111, 112]
  have E2 := eqlS t [114, 101, 116]
  have d1 := decide_eq_false h1
  have d2 := decide_eq_false h2
  refine Cut_spec (s := t) (p := [32]) hg (by omega) fun w1 hx1 => ?_
  generalize Lib.cut t [32] = c at *
  have E3 := eqlS c.1 [106]
  have E4 := eqlS c.1 [109, 118]
  have E5 := eqlS c.1 [108, 105]
  simp (disch := first | assumption | omega | (simp only [szR, izC_len, izC_all, lnC_len, lnC_all, mkC_len, mkC_all] <;> omega) | rfl | decide) only [gen0, gen1, gen2, rulesC, rulesX, rulesA, litR, bolR, Nat.reduceAdd, Nat.reduceLeDiff, numR, memR, valR, heapR, updR, intR, decR, extR, slR, segR, thenR, pnR, Int.reduceToNat, Int.reduceAdd, Int.reduceSub, Int.reduceLT, Int.reduceLE, Nat.reduceSub, Nat.reduceMul, Nat.reduceEqDiff]
  refine joinL.intro fun J0 hJ0 => ?_
  have hgo : J0 [] w1 := by
    apply hJ0
    intro _
    simp (disch := first | assumption | omega | (simp only [szR, izC_len, izC_all, lnC_len, lnC_all, mkC_len, mkC_all] <;> omega) | rfl | decide) only [gen0, gen1, gen2, rulesC, rulesX, rulesA, litR, bolR, Nat.reduceAdd, Nat.reduceLeDiff, numR, memR, valR, heapR, updR, intR, decR, extR, slR, segR, thenR, pnR, Int.reduceToNat, Int.reduceAdd, Int.reduceSub, Int.reduceLT, Int.reduceLE, Nat.reduceSub, Nat.reduceMul, Nat.reduceEqDiff]
    have hx1s := hx1.size
    exact one_text fun v w' hv hx hb => hK v w' hv (hx1.trans hx (by simp)) fun b hb2 => Nat.le_trans hx1s (hb b hb2)
  rcases h3 with h3 | ⟨h3, h4, h5⟩
  · simp (disch := first | assumption | omega | (simp only [szR, izC_len, izC_all, lnC_len, lnC_all, mkC_len, mkC_all] <;> omega) | rfl | decide) only [gen0, gen1, gen2, rulesC, rulesX, rulesA, litR, bolR, Nat.reduceAdd, Nat.reduceLeDiff, numR, memR, valR, heapR, updR, intR, decR, extR, slR, segR, thenR, pnR, Int.reduceToNat, Int.reduceAdd, Int.reduceSub, Int.reduceLT, Int.reduceLE, Nat.reduceSub, Nat.reduceMul, Nat.reduceEqDiff, E1, d1, E2, d2, h3]
    exact hgo
  · cases hc : c.2.2 with
    | false =>
      simp (disch := first | assumption | omega | (simp only [szR, izC_len, izC_all, lnC_len, lnC_all, mkC_len, mkC_all] <;> omega) | rfl | decide) only [gen0, gen1, gen2, rulesC, rulesX, rulesA, litR, bolR, Nat.reduceAdd, Nat.reduceLeDiff, numR, memR, valR, heapR, updR, intR, decR, extR, slR, segR, thenR, pnR, Int.reduceToNat, Int.reduceAdd, Int.reduceSub, Int.reduceLT, Int.reduceLE, Nat.reduceSub, Nat.reduceMul, Nat.reduceEqDiff, E1, d1, E2, d2]
      exact hgo
    | true =>
      have d3 := decide_eq_false h3
      have d4 := decide_eq_false h4
      have d5 := decide_eq_false h5
      simp (disch := first | assumption | omega | (simp only [szR, izC_len, izC_all, lnC_len, lnC_all, mkC_len, mkC_all] <;> omega) | rfl | decide) only [gen0, gen1, gen2, rulesC, rulesX, rulesA, litR, bolR, Nat.reduceAdd, Nat.reduceLeDiff, numR, memR, valR, heapR, updR, intR, decR, extR, slR, segR, thenR, pnR, Int.reduceToNat, Int.reduceAdd, Int.reduceSub, Int.reduceLT, Int.reduceLE, Nat.reduceSub, Nat.reduceMul, Nat.reduceEqDiff, E1, d1, E2, d2, E3, d3, E4, d4, E5, d5]
      exact hgo
/-- marks' places, how often each is there, and how many instructions there are, behind a line. -/
structure Mk where
  a : List UInt8 → Option Int
  t : List UInt8 → Option Int
  n : Nat
def stepC (st : List UInt8 → List (List UInt8)) (p : Mk) (x : Ln) : Mk :=
  if x.m then ⟨fun b => if b = x.t then some p.n else p.a b, fun b => if b = x.t then some ((p.t x.t).getD 0 + 1) else p.t b, p.n⟩ else ⟨p.a, p.t, p.n + (st x.t).length⟩
def Mk.zero : Mk := ⟨fun _ => none, fun _ => none, 0⟩
def countF (st : List UInt8 → List (List UInt8)) (L : List Ln) : Mk := L.foldl (stepC st) Mk.zero
theorem countF_n {st : List UInt8 → List (List UInt8)} (hst : ∀ t, (st t).length ≤ 2) : ∀ L, (countF st L).n ≤ 2 * L.length := by
  intro L
  unfold countF
  suffices h : ∀ (L : List Ln) (p : Mk), (L.foldl (stepC st) p).n ≤ p.n + 2 * L.length by
    have := h L Mk.zero
    simpa [Mk.zero] using this
  intro L
  induction L with
  | nil => intro p; simp
  | cons x L ih =>
    intro p
    rw [List.foldl_cons, List.length_cons]
    have h1 := ih (stepC st p x)
    have h2 : (stepC st p x).n ≤ p.n + 2 := by
      unfold stepC
      split
      · simp
      · have := hst x.t
        simp
        omega
    omega
theorem countF_t {st : List UInt8 → List (List UInt8)} : ∀ L b, 0 ≤ ((countF st L).t b).getD 0 ∧ ((countF st L).t b).getD 0 ≤ L.length := by
  intro L
  unfold countF
  suffices h : ∀ (L : List Ln) (p : Mk) (m : Nat), (∀ b, 0 ≤ (p.t b).getD 0 ∧ (p.t b).getD 0 ≤ m) → ∀ b, 0 ≤ ((L.foldl (stepC st) p).t b).getD 0 ∧ ((L.foldl (stepC st) p).t b).getD 0 ≤ m + L.length by
    have := h L Mk.zero 0 (fun b => by simp [Mk.zero])
    simpa using this
  intro L
  induction L with
  | nil => intro p m h b; simpa using h b
  | cons x L ih =>
    intro p m h b
    have := ih (stepC st p x) (m + 1) (fun c => by
      unfold stepC
      have h1 := h x.t
      have h2 := h c
      split
      · simp only
        split
        · simp only [Option.getD_some]
          omega
        · omega
      · simp only
        omega) b
    rw [List.foldl_cons, List.length_cons]
    omega
theorem countF_a {st : List UInt8 → List (List UInt8)} (hst : ∀ t, (st t).length ≤ 2) : ∀ L b c, (countF st L).a b = some c → 0 ≤ c ∧ c ≤ 2 * L.length := by
  intro L
  unfold countF
  suffices h : ∀ (L : List Ln) (p : Mk) (m : Nat), p.n ≤ m → (∀ b c, p.a b = some c → 0 ≤ c ∧ c ≤ m) → ∀ b c, (L.foldl (stepC st) p).a b = some c → 0 ≤ c ∧ c ≤ m + 2 * L.length by
    have := h L Mk.zero 0 (Nat.le_refl _) (fun b c h => by simp [Mk.zero] at h)
    simpa using this
  intro L
  induction L with
  | nil => intro p m _ h b c hb; simpa using h b c hb
  | cons x L ih =>
    intro p m hn h b c hb
    rw [List.foldl_cons] at hb
    have := ih (stepC st p x) (m + 2) (by
      unfold stepC
      split
      · simp only; omega
      · have := hst x.t
        simp only; omega) (fun b c hb => by
      unfold stepC at hb
      split at hb
      · simp only at hb
        split at hb
        · simp only [Option.some.injEq] at hb
          omega
        · have := h b c hb
          omega
      · have := h b c hb
        omega) b c hb
    rw [List.length_cons]
    omega
end Go.Proofs.YtobkjnmdbkieeaaDoor
