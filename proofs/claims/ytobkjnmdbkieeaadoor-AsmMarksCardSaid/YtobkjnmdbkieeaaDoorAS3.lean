/- Names of marks, and instructions' texts; conditions: those of each theorem. -/
import Derived.Test.YtobkjnmdbkieeaaDoorAS2
namespace Go.Proofs.YtobkjnmdbkieeaaDoor
open Go.Fx
set_option maxRecDepth 100000
set_option linter.unusedSimpArgs false
set_option linter.unusedVariables false
/-- a sign of a mark's name. -/
def chB (b : UInt8) : Bool := decide ((97 ≤ b.toNat ∧ b.toNat ≤ 122) ∨ (48 ≤ b.toNat ∧ b.toNat ≤ 57) ∨ b.toNat = 95)
def headB : List UInt8 → Bool
  | [] => false
  | b :: _ => decide (97 ≤ b.toNat ∧ b.toNat ≤ 122)
def namedF (s : List UInt8) : Bool := decide (s.length ≤ 64) && headB s && s.all chB
theorem named_spec {w : World} {s : List UInt8} (hs : s.length < 4294967281) {K : Value → World → Prop} (hK : K (.bool (namedF s)) w) : callsK Tryd.prog 52 #[.string ⟨s.toArray⟩] w K := by
  apply F52_ok
  unfold F52
  have hE := eqlS s []
  have hL := lenS s
  cases s with
  | nil =>
    have hf : namedF [] = false := rfl
    rw [hf] at hK
    simp (disch := first | assumption | omega | (simp only [szR, izC_len, izC_all] <;> omega) | rfl | decide) only [gen0, gen1, gen2, rulesC, rulesX, rulesA, litR, bolR, Nat.reduceAdd, Nat.reduceLeDiff, numR, memR, valR, heapR, updR, intR, decR, extR, slR, segR, thenR, pnR, Int.reduceToNat, Int.reduceAdd, Int.reduceSub, Int.reduceLT, Int.reduceLE, Nat.reduceSub, Nat.reduceMul, Nat.reduceEqDiff, joinBR, hE]
    exact hK
  | cons b0 s0 =>
    have hE' : ∀ x y w, (binV .eql 9 x y (.string ⟨(b0 :: s0).toArray⟩) (.string ⟨#[]⟩)).run Tryd.prog w = .ok (.bool false) w := fun x y w => (hE x y w).trans (by rw [decide_eq_false (by simp)])
    have hix0 : ∀ w, (Instr.index 9 (.string ⟨(b0 :: s0).toArray⟩) (.int .i64 0)).run Tryd.prog w = .ok (.int .u8 (b0.toNat : Nat)) w := ixS (l := b0 :: s0) (k := 0) (b := b0) rfl
    have hb0 := b0.toNat_lt
    obtain ⟨s, hse⟩ : ∃ s, s = b0 :: s0 := ⟨_, rfl⟩
    have hn : namedF s = (decide (s.length ≤ 64) && decide (97 ≤ b0.toNat ∧ b0.toNat ≤ 122) && s.all chB) := by rw [hse]; rfl
    rw [← hse] at hK hE' hix0 hL hs ⊢
    rw [hn] at hK
    clear hn hse hE
    by_cases h1 : s.length ≤ 64
    · rw [decide_eq_true h1, Bool.true_and] at hK
      by_cases h2 : 97 ≤ b0.toNat ∧ b0.toNat ≤ 122
      · rw [decide_eq_true h2, Bool.true_and] at hK
        simp (disch := first | assumption | omega | (simp only [szR, izC_len, izC_all] <;> omega) | rfl | decide) only [gen0, gen1, gen2, rulesC, rulesX, rulesA, litR, bolR, Nat.reduceAdd, Nat.reduceLeDiff, numR, memR, valR, heapR, updR, intR, decR, extR, slR, segR, thenR, pnR, Int.reduceToNat, Int.reduceAdd, Int.reduceSub, Int.reduceLT, Int.reduceLE, Nat.reduceSub, Nat.reduceMul, Nat.reduceEqDiff, joinBR, hE', hL, hix0]
        refine loopT.intro (fun st w' => ∃ (k : Nat), k ≤ s.length ∧ st = [.int .i64 (k : Nat)] ∧ (s.take k).all chB = true ∧ w' = w)
          (fun st _ => match st with
            | [.int _ z] => s.length - z.toNat
            | _ => 0) ⟨0, Nat.zero_le _, rfl, rfl, rfl⟩ ?_
        rintro st w' ⟨k, hk, rfl, hall, rfl⟩ _
        by_cases h4 : k < s.length
        · obtain ⟨b, hb⟩ : ∃ b, s[k]? = some b := ⟨_, List.getElem?_eq_getElem h4⟩
          have hix := ixS hb
          have hna : (s.take (k + 1)).all chB = chB b := by
            rw [List.take_add_one, hb, List.all_append, hall]
            simp
          have hbl := b.toNat_lt
          have hyes : chB b = true → ((∃ (k_1 : Nat), k_1 ≤ s.length ∧ [Value.int .i64 (k + 1 : Int)] = [Value.int .i64 (k_1 : Nat)] ∧ (s.take k_1).all chB = true ∧ True) ∧ s.length - (k + 1) < s.length - k) := fun h => ⟨⟨k + 1, by omega, rfl, hna.trans h, trivial⟩, by omega⟩
          have hno : chB b = false → K (.bool false) w' := fun h => by
            have : s.all chB = false := List.all_eq_false.2 ⟨b, List.mem_of_getElem? hb, by rw [h]; decide⟩
            rwa [this] at hK
          clear hK
          unfold chB at hyes hno
          by_cases c1 : b.toNat < 97
          · by_cases c2 : b.toNat < 48
            · simp (disch := first | assumption | omega | (simp only [szR, izC_len, izC_all] <;> omega) | rfl | decide) only [gen0, gen1, gen2, rulesC, rulesX, rulesA, litR, bolR, Nat.reduceAdd, Nat.reduceLeDiff, numR, memR, valR, heapR, updR, intR, decR, extR, slR, segR, thenR, pnR, Int.reduceToNat, Int.reduceAdd, Int.reduceSub, Int.reduceLT, Int.reduceLE, Nat.reduceSub, Nat.reduceMul, Nat.reduceEqDiff, joinBR, hix, List.getD_cons_zero]
              exact hno (decide_eq_false (by omega))
            · by_cases c3 : 57 < b.toNat
              · by_cases c4 : b.toNat = 95
                · simp (disch := first | assumption | omega | (simp only [szR, izC_len, izC_all] <;> omega) | rfl | decide) only [gen0, gen1, gen2, rulesC, rulesX, rulesA, litR, bolR, Nat.reduceAdd, Nat.reduceLeDiff, numR, memR, valR, heapR, updR, intR, decR, extR, slR, segR, thenR, pnR, Int.reduceToNat, Int.reduceAdd, Int.reduceSub, Int.reduceLT, Int.reduceLE, Nat.reduceSub, Nat.reduceMul, Nat.reduceEqDiff, joinBR, hix, List.getD_cons_zero]
                  exact ⟨⟨k + 1, by omega, rfl, by rw [hna]; exact decide_eq_true (by omega), trivial⟩, by first | omega | (simp <;> omega)⟩
                · simp (disch := first | assumption | omega | (simp only [szR, izC_len, izC_all] <;> omega) | rfl | decide) only [gen0, gen1, gen2, rulesC, rulesX, rulesA, litR, bolR, Nat.reduceAdd, Nat.reduceLeDiff, numR, memR, valR, heapR, updR, intR, decR, extR, slR, segR, thenR, pnR, Int.reduceToNat, Int.reduceAdd, Int.reduceSub, Int.reduceLT, Int.reduceLE, Nat.reduceSub, Nat.reduceMul, Nat.reduceEqDiff, joinBR, hix, List.getD_cons_zero]
                  exact hno (decide_eq_false (by omega))
              · simp (disch := first | assumption | omega | (simp only [szR, izC_len, izC_all] <;> omega) | rfl | decide) only [gen0, gen1, gen2, rulesC, rulesX, rulesA, litR, bolR, Nat.reduceAdd, Nat.reduceLeDiff, numR, memR, valR, heapR, updR, intR, decR, extR, slR, segR, thenR, pnR, Int.reduceToNat, Int.reduceAdd, Int.reduceSub, Int.reduceLT, Int.reduceLE, Nat.reduceSub, Nat.reduceMul, Nat.reduceEqDiff, joinBR, hix, List.getD_cons_zero]
                exact ⟨⟨k + 1, by omega, rfl, by rw [hna]; exact decide_eq_true (by omega), trivial⟩, by first | omega | (simp <;> omega)⟩
          · by_cases c3 : 122 < b.toNat
            · simp (disch := first | assumption | omega | (simp only [szR, izC_len, izC_all] <;> omega) | rfl | decide) only [gen0, gen1, gen2, rulesC, rulesX, rulesA, litR, bolR, Nat.reduceAdd, Nat.reduceLeDiff, numR, memR, valR, heapR, updR, intR, decR, extR, slR, segR, thenR, pnR, Int.reduceToNat, Int.reduceAdd, Int.reduceSub, Int.reduceLT, Int.reduceLE, Nat.reduceSub, Nat.reduceMul, Nat.reduceEqDiff, joinBR, hix, List.getD_cons_zero]
              exact hno (decide_eq_false (by omega))
            · simp (disch := first | assumption | omega | (simp only [szR, izC_len, izC_all] <;> omega) | rfl | decide) only [gen0, gen1, gen2, rulesC, rulesX, rulesA, litR, bolR, Nat.reduceAdd, Nat.reduceLeDiff, numR, memR, valR, heapR, updR, intR, decR, extR, slR, segR, thenR, pnR, Int.reduceToNat, Int.reduceAdd, Int.reduceSub, Int.reduceLT, Int.reduceLE, Nat.reduceSub, Nat.reduceMul, Nat.reduceEqDiff, joinBR, hix, List.getD_cons_zero]
              exact ⟨⟨k + 1, by omega, rfl, by rw [hna]; exact decide_eq_true (by omega), trivial⟩, by first | omega | (simp <;> omega)⟩
        · obtain rfl : k = s.length := by omega
          rw [List.take_length] at hall
          rw [hall] at hK
          simp (disch := first | assumption | omega | (simp only [szR, izC_len, izC_all] <;> omega) | rfl | decide) only [gen0, gen1, gen2, rulesC, rulesX, rulesA, litR, bolR, Nat.reduceAdd, Nat.reduceLeDiff, numR, memR, valR, heapR, updR, intR, decR, extR, slR, segR, thenR, pnR, Int.reduceToNat, Int.reduceAdd, Int.reduceSub, Int.reduceLT, Int.reduceLE, Nat.reduceSub, Nat.reduceMul, Nat.reduceEqDiff, joinBR, List.getD_cons_zero]
          exact hK
      · rw [decide_eq_false h2] at hK
        by_cases h3 : b0.toNat < 97
        · simp (disch := first | assumption | omega | (simp only [szR, izC_len, izC_all] <;> omega) | rfl | decide) only [gen0, gen1, gen2, rulesC, rulesX, rulesA, litR, bolR, Nat.reduceAdd, Nat.reduceLeDiff, numR, memR, valR, heapR, updR, intR, decR, extR, slR, segR, thenR, pnR, Int.reduceToNat, Int.reduceAdd, Int.reduceSub, Int.reduceLT, Int.reduceLE, Nat.reduceSub, Nat.reduceMul, Nat.reduceEqDiff, joinBR, hE', hL, hix0]
          exact hK
        · simp (disch := first | assumption | omega | (simp only [szR, izC_len, izC_all] <;> omega) | rfl | decide) only [gen0, gen1, gen2, rulesC, rulesX, rulesA, litR, bolR, Nat.reduceAdd, Nat.reduceLeDiff, numR, memR, valR, heapR, updR, intR, decR, extR, slR, segR, thenR, pnR, Int.reduceToNat, Int.reduceAdd, Int.reduceSub, Int.reduceLT, Int.reduceLE, Nat.reduceSub, Nat.reduceMul, Nat.reduceEqDiff, joinBR, hE', hL, hix0]
          exact hK
    · rw [decide_eq_false h1] at hK
      simp (disch := first | assumption | omega | (simp only [szR, izC_len, izC_all] <;> omega) | rfl | decide) only [gen0, gen1, gen2, rulesC, rulesX, rulesA, litR, bolR, Nat.reduceAdd, Nat.reduceLeDiff, numR, memR, valR, heapR, updR, intR, decR, extR, slR, segR, thenR, pnR, Int.reduceToNat, Int.reduceAdd, Int.reduceSub, Int.reduceLT, Int.reduceLE, Nat.reduceSub, Nat.reduceMul, Nat.reduceEqDiff, joinBR, hE', hL]
      exact hK
end Go.Proofs.YtobkjnmdbkieeaaDoor
