/- An instruction's text, read: its registers; conditions: those of each theorem. -/
import Derived.Test.YtobkjnmdbkieeaaDoorAS5
namespace Go.Proofs.YtobkjnmdbkieeaaDoor
open Go.Fx
set_option maxRecDepth 100000
set_option linter.unusedSimpArgs false
set_option linter.unusedVariables false
theorem numberF_in (s : List UInt8) : in64 (numberF s).1 := by
  have h0 : in64 0 := ⟨by decide, by decide⟩
  unfold numberF
  split
  · exact h0
  · rename_i hn
    split
    · rename_i ha
      have h10 : (Lib.trimPrefix s [45]).length ≤ 10 := by
        refine Nat.le_of_not_lt fun h => hn (.inr (.inl h))
      have hv := Nat.lt_of_lt_of_le (valL_lt _ ha) (Nat.pow_le_pow_right (by decide) h10)
      have p10 : (10 : Nat) ^ 10 = 10000000000 := by decide
      rw [p10] at hv
      unfold in64
      split <;> omega
    · exact h0
def regOK (s : List UInt8) : Bool := Lib.hasPrefix s [99] && (numberF (Lib.trimPrefix s [99])).2 && decide (0 ≤ (numberF (Lib.trimPrefix s [99])).1) && decide ((numberF (Lib.trimPrefix s [99])).1 ≤ 31)
def regN (s : List UInt8) : Int := (numberF (Lib.trimPrefix s [99])).1
theorem trim_len (s p : List UInt8) : (Lib.trimPrefix s p).length ≤ s.length := by
  unfold Lib.trimPrefix
  split
  · simp
  · exact Nat.le_refl _
theorem regP_spec {w : World} {bk : Nat} {ok : Bool} {s : List UInt8} (hs : s.length < 4294967281) (h : w.heap[bk]? = some (.cells [.bool ok].toArray 4 (0, 0))) {K : Value → World → Prop}
    (hK : K (.int .i64 (regN s)) (World.upd w bk [.bool (ok && regOK s)])) : callsK Tryd.prog 29 #[.string ⟨s.toArray⟩, .pointer (some ⟨bk, 0, none⟩)] w K := by
  apply F29_ok
  unfold F29
  refine CutPrefix_spec (s := s) (p := [99]) ?_
  simp (disch := first | assumption | omega | (simp only [szR, izC_len, izC_all] <;> omega) | rfl | decide) only [gen0, gen1, gen2, rulesC, rulesX, rulesA, litR, bolR, Nat.reduceAdd, Nat.reduceLeDiff, numR, memR, valR, heapR, updR, intR, decR, extR, slR, segR, thenR, pnR, Int.reduceToNat, Int.reduceAdd, Int.reduceSub, Int.reduceLT, Int.reduceLE, Nat.reduceSub, Nat.reduceMul, Nat.reduceEqDiff]
  have hin := numberF_in (Lib.trimPrefix s [99])
  refine number_spec (Nat.lt_of_le_of_lt (trim_len s [99]) hs) ?_
  unfold regOK regN at hK
  generalize numberF (Lib.trimPrefix s [99]) = nf at *
  obtain ⟨n, fine⟩ := nf
  generalize Lib.hasPrefix s [99] = hp at *
  simp only at hK hin
  obtain ⟨hn1, hn2⟩ := hin
  have l := lt_of_at h
  cases ok <;> cases hp <;> cases fine
  all_goals
    by_cases c1 : 0 ≤ n
    · by_cases c2 : n ≤ 31
      · simp only [decide_eq_true c1, decide_eq_true c2, Bool.and_true, Bool.and_false, Bool.true_and, Bool.false_and] at hK
        simp (disch := first | assumption | omega | (simp only [szR, izC_len, izC_all] <;> omega) | rfl | decide) only [gen0, gen1, gen2, rulesC, rulesX, rulesA, litR, bolR, Nat.reduceAdd, Nat.reduceLeDiff, numR, memR, valR, heapR, updR, intR, decR, extR, slR, segR, thenR, pnR, Int.reduceToNat, Int.reduceAdd, Int.reduceSub, Int.reduceLT, Int.reduceLE, Nat.reduceSub, Nat.reduceMul, Nat.reduceEqDiff, joinBR, h, List.set_cons_zero]
        exact hK
      · simp only [decide_eq_true c1, decide_eq_false c2, Bool.and_true, Bool.and_false, Bool.true_and, Bool.false_and] at hK
        simp (disch := first | assumption | omega | (simp only [szR, izC_len, izC_all] <;> omega) | rfl | decide) only [gen0, gen1, gen2, rulesC, rulesX, rulesA, litR, bolR, Nat.reduceAdd, Nat.reduceLeDiff, numR, memR, valR, heapR, updR, intR, decR, extR, slR, segR, thenR, pnR, Int.reduceToNat, Int.reduceAdd, Int.reduceSub, Int.reduceLT, Int.reduceLE, Nat.reduceSub, Nat.reduceMul, Nat.reduceEqDiff, joinBR, h, List.set_cons_zero]
        exact hK
    · simp only [decide_eq_false c1, Bool.and_true, Bool.and_false, Bool.true_and, Bool.false_and] at hK
      simp (disch := first | assumption | omega | (simp only [szR, izC_len, izC_all] <;> omega) | rfl | decide) only [gen0, gen1, gen2, rulesC, rulesX, rulesA, litR, bolR, Nat.reduceAdd, Nat.reduceLeDiff, numR, memR, valR, heapR, updR, intR, decR, extR, slR, segR, thenR, pnR, Int.reduceToNat, Int.reduceAdd, Int.reduceSub, Int.reduceLT, Int.reduceLE, Nat.reduceSub, Nat.reduceMul, Nat.reduceEqDiff, joinBR, h, List.set_cons_zero]
      exact hK
end Go.Proofs.YtobkjnmdbkieeaaDoor
