/- A part put in order by a few exchanges; conditions: those of each theorem. -/
import Derived.Test.YtgnibcaflidjmaaSU4
namespace Go.Proofs.Ytgnibcaflidjmaa
open Go.Fx
set_option maxRecDepth 100000
set_option linter.unusedSimpArgs false
set_option linter.unusedVariables false
set_option maxHeartbeats 1000000
theorem partial_spec {w : World} {g n c a b : Nat} {xs : List Nat} (h : SU w g n xs) (hab : a < b) (hbn : b ≤ n) (hn : n < 1000000) (hLo : 0 < a → ∀ k, a ≤ k → k < b → V xs (a - 1) ≤ V xs k) {K : Value → World → Prop}
    (hK : ∀ (z : Bool) ys w', SU w' g n ys → Sw a b xs ys → (z = true → Asc ys a b) → Ext [g] w w' → K (.bool z) w') :
    callsK Try.prog 102 #[.slice (some ⟨g, 0, none⟩) n c, .int .i64 (a : Nat), .int .i64 (b : Nat)] w K := by
  apply F102_ok
  unfold F102
  have e1 : ((a : Nat) : Int) + 1 = ((a + 1 : Nat) : Int) := by omega
  simp (disch := first | assumption | omega | (simp only [szR] <;> omega) | rfl | decide) only [gen0, gen1, gen2, rulesZ, litR, bolR, Nat.reduceAdd, Nat.reduceLeDiff, numR, memR, valR, heapR, updR, intR, decR, extR, slR, segR, thenR, pnR, Int.reduceToNat, Int.reduceAdd, Int.reduceSub, Int.reduceLT, Int.reduceLE, Nat.reduceSub, Nat.reduceMul, Nat.reduceEqDiff, e1]
  refine loopT.intro (fun st w' => ∃ (i s : Nat) (zs : List Nat), a + 1 ≤ i ∧ i ≤ b ∧ s ≤ 5 ∧ st = [.int .i64 (i : Nat), .int .i64 (s : Nat)] ∧ SU w' g n zs ∧ Sw a b xs zs ∧ Asc zs a i ∧ Ext [g] w w')
    (fun st _ => match st with
      | [_, .int _ y] => 5 - y.toNat
      | _ => 0) ⟨a + 1, 0, xs, by omega, by omega, by omega, rfl, h, Sw.refl _ _ _, fun k k1 k2 => by omega, Ext.refl⟩ ?_
  rintro st w2 ⟨i0, s, zs, hi0, hi0', hs, rfl, h2, hp2, hA2, hx2⟩ _
  by_cases hs5 : s < 5
  rotate_left
  · have d : decide (((s : Nat) : Int) < 5) = false := decide_eq_false (by omega)
    simp (disch := first | assumption | omega | (simp only [szR] <;> omega) | rfl | decide) only [gen0, gen1, gen2, rulesZ, litR, bolR, Nat.reduceAdd, Nat.reduceLeDiff, numR, memR, valR, heapR, updR, intR, decR, extR, slR, segR, thenR, pnR, Int.reduceToNat, Int.reduceAdd, Int.reduceSub, Int.reduceLT, Int.reduceLE, Nat.reduceSub, Nat.reduceMul, Nat.reduceEqDiff, joinBR, d]
    exact hK false zs w2 h2 hp2 (fun e => by cases e) hx2
  have d : decide (((s : Nat) : Int) < 5) = true := decide_eq_true (by omega)
  simp (disch := first | assumption | omega | (simp only [szR] <;> omega) | rfl | decide) only [gen0, gen1, gen2, rulesZ, litR, bolR, Nat.reduceAdd, Nat.reduceLeDiff, numR, memR, valR, heapR, updR, intR, decR, extR, slR, segR, thenR, pnR, Int.reduceToNat, Int.reduceAdd, Int.reduceSub, Int.reduceLT, Int.reduceLE, Nat.reduceSub, Nat.reduceMul, Nat.reduceEqDiff, joinBR, d]
  clear d
  refine joinL.intro fun J2 hJ2 => ?_
  have HJ2 : ∀ (i : Nat) ys w', i0 ≤ i → i ≤ b → SU w' g n ys → Sw a b xs ys → Asc ys a i → Ext [g] w w' → J2 [.int .i64 (i : Nat)] w' := by
    intro i ys w' h1 h1' h2 h3 hA h4
    have es : ((s : Nat) : Int) + 1 = ((s + 1 : Nat) : Int) := by omega
    apply hJ2
    intro _
    simp (disch := first | assumption | omega | (simp only [szR] <;> omega) | rfl | decide) only [gen0, gen1, gen2, rulesZ, litR, bolR, Nat.reduceAdd, Nat.reduceLeDiff, numR, memR, valR, heapR, updR, intR, decR, extR, slR, segR, thenR, pnR, Int.reduceToNat, Int.reduceAdd, Int.reduceSub, Int.reduceLT, Int.reduceLE, Nat.reduceSub, Nat.reduceMul, Nat.reduceEqDiff, es]
    exact ⟨⟨i, s + 1, ys, by omega, h1', by omega, rfl, h2, h3, hA, h4⟩, by omega⟩
  clear hJ2
  obtain ⟨cur2, hb2, hl2, hc2⟩ := h2.at'
  have hlen2 := h2.len
  refine loopT.intro (fun st w' => ∃ (i : Nat), i0 ≤ i ∧ i ≤ b ∧ st = [.int .i64 (i : Nat)] ∧ SU w' g n zs ∧ w'.heap[g]? = some (.cells cur2.toArray 28 (0, 0)) ∧ Asc zs a i ∧ Ext [g] w w')
    (fun st _ => match st with
      | [.int _ y] => b - y.toNat
      | _ => 0) ⟨i0, Nat.le_refl _, hi0', rfl, h2, hb2, hA2, hx2⟩ ?_
  rintro st w3 ⟨i, hi, hib, rfl, h3, hb3, hA3, hx3⟩ _
  have ei : ((i : Nat) : Int) + 1 = ((i + 1 : Nat) : Int) := by omega
  have em : ((i : Nat) : Int) - 1 = ((i - 1 : Nat) : Int) := by omega
  rw [drewK_eq]
  by_cases hij : i < b
  rotate_left
  · have d1 : decide (((i : Nat) : Int) < ((b : Nat) : Int)) = false := decide_eq_false (by omega)
    have hib' : i = b := by omega
    subst hib'
    simp (disch := first | assumption | omega | (simp only [szR] <;> omega) | rfl | decide) only [gen0, gen1, gen2, rulesZ, litR, bolR, Nat.reduceAdd, Nat.reduceLeDiff, numR, memR, valR, heapR, updR, intR, decR, extR, slR, segR, thenR, pnR, Int.reduceToNat, Int.reduceAdd, Int.reduceSub, Int.reduceLT, Int.reduceLE, Nat.reduceSub, Nat.reduceMul, Nat.reduceEqDiff, joinBR, d1]
    exact hK true zs _ h3.drew hp2 (fun _ => hA3) (xE hx3 (dE _))
  have d1 : decide (((i : Nat) : Int) < ((b : Nat) : Int)) = true := decide_eq_true (by omega)
  have d2 : decide (((i : Nat) : Int) = ((b : Nat) : Int)) = false := decide_eq_false (by omega)
  have d3 : (((i : Nat) : Int) == ((b : Nat) : Int)) = false := by simp; omega
  have gi := hc2 i (by omega)
  have gm := hc2 (i - 1) (by omega)
  simp (disch := first | assumption | omega | (simp only [szR] <;> omega) | rfl | decide) only [gen0, gen1, gen2, rulesZ, litR, bolR, Nat.reduceAdd, Nat.reduceLeDiff, numR, memR, valR, heapR, updR, intR, decR, extR, slR, segR, thenR, pnR, Int.reduceToNat, Int.reduceAdd, Int.reduceSub, Int.reduceLT, Int.reduceLE, Nat.reduceSub, Nat.reduceMul, Nat.reduceEqDiff, joinBR, d1, hb3, gi, em, gm]
  refine lessK (fun hlt => ?_) (fun hge => ?_)
  rotate_left
  · rw [V_get (by omega), V_get (by omega)] at hge
    simp (disch := first | assumption | omega | (simp only [szR] <;> omega) | rfl | decide) only [gen0, gen1, gen2, rulesZ, litR, bolR, Nat.reduceAdd, Nat.reduceLeDiff, numR, memR, valR, heapR, updR, intR, decR, extR, slR, segR, thenR, pnR, Int.reduceToNat, Int.reduceAdd, Int.reduceSub, Int.reduceLT, Int.reduceLE, Nat.reduceSub, Nat.reduceMul, Nat.reduceEqDiff, joinBR, Bool.not_false, ei]
    exact ⟨⟨i + 1, by omega, by omega, rfl, h3.drew, hb3, fun k k1 k2 => by
      by_cases e : k + 1 = i
      · rw [e, show k = i - 1 by omega]
        exact hge
      · exact hA3 k k1 (by omega), xE hx3 (dE _)⟩, by omega⟩
  simp (disch := first | assumption | omega | (simp only [szR] <;> omega) | rfl | decide) only [gen0, gen1, gen2, rulesZ, litR, bolR, Nat.reduceAdd, Nat.reduceLeDiff, numR, memR, valR, heapR, updR, intR, decR, extR, slR, segR, thenR, pnR, Int.reduceToNat, Int.reduceAdd, Int.reduceSub, Int.reduceLT, Int.reduceLE, Nat.reduceSub, Nat.reduceMul, Nat.reduceEqDiff, joinBR, Bool.not_true, d2, d3]
  clear d1 d2 d3
  by_cases h50 : ((b : Nat) : Int) - ((a : Nat) : Int) < 50
  · have d4 : decide (((b : Nat) : Int) - ((a : Nat) : Int) < 50) = true := decide_eq_true h50
    simp (disch := first | assumption | omega | (simp only [szR] <;> omega) | rfl | decide) only [gen0, gen1, gen2, rulesZ, litR, bolR, Nat.reduceAdd, Nat.reduceLeDiff, numR, memR, valR, heapR, updR, intR, decR, extR, slR, segR, thenR, pnR, Int.reduceToNat, Int.reduceAdd, Int.reduceSub, Int.reduceLT, Int.reduceLE, Nat.reduceSub, Nat.reduceMul, Nat.reduceEqDiff, joinBR, d4]
    exact hK false zs _ h3.drew hp2 (fun e => by cases e) (xE hx3 (dE _))
  have d4 : decide (((b : Nat) : Int) - ((a : Nat) : Int) < 50) = false := decide_eq_false h50
  simp (disch := first | assumption | omega | (simp only [szR] <;> omega) | rfl | decide) only [gen0, gen1, gen2, rulesZ, litR, bolR, Nat.reduceAdd, Nat.reduceLeDiff, numR, memR, valR, heapR, updR, intR, decR, extR, slR, segR, thenR, pnR, Int.reduceToNat, Int.reduceAdd, Int.reduceSub, Int.reduceLT, Int.reduceLE, Nat.reduceSub, Nat.reduceMul, Nat.reduceEqDiff, joinBR, d4]
  clear d4
  refine joinL.intro fun J7 hJ7 => ?_
  rw [drewK_eq]
  simp (disch := first | assumption | omega | (simp only [szR] <;> omega) | rfl | decide) only [gen0, gen1, gen2, rulesZ, litR, bolR, Nat.reduceAdd, Nat.reduceLeDiff, numR, memR, valR, heapR, updR, intR, decR, extR, slR, segR, thenR, pnR, Int.reduceToNat, Int.reduceAdd, Int.reduceSub, Int.reduceLT, Int.reduceLE, Nat.reduceSub, Nat.reduceMul, Nat.reduceEqDiff, hb3, gi, em, gm, and_self]
  obtain ⟨us, h6, hp6, hx6⟩ := SU.swap h3.drew.drew hb3 hl2 hc2 (i := i) (j := i - 1) (by omega) (by omega)
  have hx6 := xG (xE (xE hx3 (dE _)) (dE _)) hx6
  have hA6 : Asc us a (i - 1) := fun k k1 k2 => by
    rw [hp6.2 k, hp6.2 (k + 1), if_neg (by omega), if_neg (by omega), if_neg (by omega), if_neg (by omega)]
    exact hA3 k k1 (by omega)
  have hH6 := Hole.start hA6
  rw [show i - 1 + 1 = i by omega] at hH6
  have hp6 := hp2.trans (hp6.sw (a := a) (b := b) (by omega) (by omega))
  apply hJ7
  intro _
  clear hJ7
  generalize World.upd w3.drew.drew g ((cur2.set i (.int .u64 (zs[i - 1] : Nat))).set (i - 1) (.int .u64 (zs[i] : Nat))) = w6 at h6 hx6 ⊢
  refine joinL.intro fun J9 hJ9 => ?_
  have HJ9 : ∀ ys w', SU w' g n ys → Sw a b xs ys → Asc ys a i → Ext [g] w w' → J9 [] w' := by
    intro ys w' h7 hp7 hA7 hx7
    apply hJ9
    intro _
    clear hJ9
    by_cases hbi : 2 ≤ ((b : Nat) : Int) - ((i : Nat) : Int)
    rotate_left
    · have d : decide (2 ≤ ((b : Nat) : Int) - ((i : Nat) : Int)) = false := decide_eq_false hbi
      simp (disch := first | assumption | omega | (simp only [szR] <;> omega) | rfl | decide) only [gen0, gen1, gen2, rulesZ, litR, bolR, Nat.reduceAdd, Nat.reduceLeDiff, numR, memR, valR, heapR, updR, intR, decR, extR, slR, segR, thenR, pnR, Int.reduceToNat, Int.reduceAdd, Int.reduceSub, Int.reduceLT, Int.reduceLE, Nat.reduceSub, Nat.reduceMul, Nat.reduceEqDiff, joinBR, d]
      exact HJ2 i ys w' hi hib h7 hp7 hA7 hx7
    have d : decide (2 ≤ ((b : Nat) : Int) - ((i : Nat) : Int)) = true := decide_eq_true hbi
    simp (disch := first | assumption | omega | (simp only [szR] <;> omega) | rfl | decide) only [gen0, gen1, gen2, rulesZ, litR, bolR, Nat.reduceAdd, Nat.reduceLeDiff, numR, memR, valR, heapR, updR, intR, decR, extR, slR, segR, thenR, pnR, Int.reduceToNat, Int.reduceAdd, Int.reduceSub, Int.reduceLT, Int.reduceLE, Nat.reduceSub, Nat.reduceMul, Nat.reduceEqDiff, joinBR, d, ei]
    clear d
    refine loopT.intro (fun st w' => ∃ (j : Nat) (zs : List Nat), i + 1 ≤ j ∧ j ≤ b ∧ st = [.int .i64 (j : Nat)] ∧ SU w' g n zs ∧ Sw a b xs zs ∧ Asc zs a i ∧ Ext [g] w w')
      (fun st _ => match st with
        | [.int _ y] => b - y.toNat
        | _ => 0) ⟨i + 1, ys, by omega, by omega, rfl, h7, hp7, hA7, hx7⟩ ?_
    rintro st w8 ⟨j, zs8, hj, hjb, rfl, h8, hp8, hA8, hx8⟩ _
    obtain ⟨cur8, hb8, hl8, hc8⟩ := h8.at'
    have hlen8 := h8.len
    by_cases hjb' : j < b
    rotate_left
    · have d : decide (((j : Nat) : Int) < ((b : Nat) : Int)) = false := decide_eq_false (by omega)
      simp (disch := first | assumption | omega | (simp only [szR] <;> omega) | rfl | decide) only [gen0, gen1, gen2, rulesZ, litR, bolR, Nat.reduceAdd, Nat.reduceLeDiff, numR, memR, valR, heapR, updR, intR, decR, extR, slR, segR, thenR, pnR, Int.reduceToNat, Int.reduceAdd, Int.reduceSub, Int.reduceLT, Int.reduceLE, Nat.reduceSub, Nat.reduceMul, Nat.reduceEqDiff, joinBR, d]
      exact HJ2 i zs8 w8 hi hib h8 hp8 hA8 hx8
    have d : decide (((j : Nat) : Int) < ((b : Nat) : Int)) = true := decide_eq_true (by omega)
    have gj := hc8 j (by omega)
    have gk := hc8 (j - 1) (by omega)
    have ej : ((j : Nat) : Int) - 1 = ((j - 1 : Nat) : Int) := by omega
    have ep : ((j : Nat) : Int) + 1 = ((j + 1 : Nat) : Int) := by omega
    simp (disch := first | assumption | omega | (simp only [szR] <;> omega) | rfl | decide) only [gen0, gen1, gen2, rulesZ, litR, bolR, Nat.reduceAdd, Nat.reduceLeDiff, numR, memR, valR, heapR, updR, intR, decR, extR, slR, segR, thenR, pnR, Int.reduceToNat, Int.reduceAdd, Int.reduceSub, Int.reduceLT, Int.reduceLE, Nat.reduceSub, Nat.reduceMul, Nat.reduceEqDiff, joinBR, d]
    clear d
    refine joinL.intro fun J13 hJ13 => ?_
    rw [drewK_eq]
    simp (disch := first | assumption | omega | (simp only [szR] <;> omega) | rfl | decide) only [gen0, gen1, gen2, rulesZ, litR, bolR, Nat.reduceAdd, Nat.reduceLeDiff, numR, memR, valR, heapR, updR, intR, decR, extR, slR, segR, thenR, pnR, Int.reduceToNat, Int.reduceAdd, Int.reduceSub, Int.reduceLT, Int.reduceLE, Nat.reduceSub, Nat.reduceMul, Nat.reduceEqDiff, joinBR, hb8, gj, ej, gk]
    refine lessK (fun _ => ?_) (fun _ => ?_)
    · simp (disch := first | assumption | omega | (simp only [szR] <;> omega) | rfl | decide) only [gen0, gen1, gen2, rulesZ, litR, bolR, Nat.reduceAdd, Nat.reduceLeDiff, numR, memR, valR, heapR, updR, intR, decR, extR, slR, segR, thenR, pnR, Int.reduceToNat, Int.reduceAdd, Int.reduceSub, Int.reduceLT, Int.reduceLE, Nat.reduceSub, Nat.reduceMul, Nat.reduceEqDiff, joinBR, Bool.not_true]
      simp (disch := first | assumption | omega | (simp only [szR] <;> omega) | rfl | decide) only [gen0, gen1, gen2, rulesZ, litR, bolR, Nat.reduceAdd, Nat.reduceLeDiff, numR, memR, valR, heapR, updR, intR, decR, extR, slR, segR, thenR, pnR, Int.reduceToNat, Int.reduceAdd, Int.reduceSub, Int.reduceLT, Int.reduceLE, Nat.reduceSub, Nat.reduceMul, Nat.reduceEqDiff, hb8, gj, ej, gk, and_self]
      obtain ⟨us, h9, hp9, hx9⟩ := SU.swap h8.drew.drew hb8 hl8 hc8 (i := j) (j := j - 1) (by omega) (by omega)
      apply hJ13
      intro _
      simp (disch := first | assumption | omega | (simp only [szR] <;> omega) | rfl | decide) only [gen0, gen1, gen2, rulesZ, litR, bolR, Nat.reduceAdd, Nat.reduceLeDiff, numR, memR, valR, heapR, updR, intR, decR, extR, slR, segR, thenR, pnR, Int.reduceToNat, Int.reduceAdd, Int.reduceSub, Int.reduceLT, Int.reduceLE, Nat.reduceSub, Nat.reduceMul, Nat.reduceEqDiff, ep]
      exact ⟨⟨j + 1, us, by omega, by omega, rfl, h9, hp8.trans (hp9.sw (by omega) (by omega)), fun k k1 k2 => by
        rw [hp9.2 k, hp9.2 (k + 1), if_neg (by omega), if_neg (by omega), if_neg (by omega), if_neg (by omega)]
        exact hA8 k k1 k2, xG (xE (xE hx8 (dE _)) (dE _)) hx9⟩, by omega⟩
    · simp (disch := first | assumption | omega | (simp only [szR] <;> omega) | rfl | decide) only [gen0, gen1, gen2, rulesZ, litR, bolR, Nat.reduceAdd, Nat.reduceLeDiff, numR, memR, valR, heapR, updR, intR, decR, extR, slR, segR, thenR, pnR, Int.reduceToNat, Int.reduceAdd, Int.reduceSub, Int.reduceLT, Int.reduceLE, Nat.reduceSub, Nat.reduceMul, Nat.reduceEqDiff, joinBR, Bool.not_false]
      exact HJ2 i zs8 _ hi hib h8.drew hp8 hA8 (xE hx8 (dE _))
  clear hJ9
  by_cases hia : 2 ≤ ((i : Nat) : Int) - ((a : Nat) : Int)
  rotate_left
  · have d : decide (2 ≤ ((i : Nat) : Int) - ((a : Nat) : Int)) = false := decide_eq_false hia
    simp (disch := first | assumption | omega | (simp only [szR] <;> omega) | rfl | decide) only [gen0, gen1, gen2, rulesZ, litR, bolR, Nat.reduceAdd, Nat.reduceLeDiff, numR, memR, valR, heapR, updR, intR, decR, extR, slR, segR, thenR, pnR, Int.reduceToNat, Int.reduceAdd, Int.reduceSub, Int.reduceLT, Int.reduceLE, Nat.reduceSub, Nat.reduceMul, Nat.reduceEqDiff, joinBR, d]
    exact HJ9 us w6 h6 hp6 (fun k k1 k2 => by omega) hx6
  have d : decide (2 ≤ ((i : Nat) : Int) - ((a : Nat) : Int)) = true := decide_eq_true hia
  simp (disch := first | assumption | omega | (simp only [szR] <;> omega) | rfl | decide) only [gen0, gen1, gen2, rulesZ, litR, bolR, Nat.reduceAdd, Nat.reduceLeDiff, numR, memR, valR, heapR, updR, intR, decR, extR, slR, segR, thenR, pnR, Int.reduceToNat, Int.reduceAdd, Int.reduceSub, Int.reduceLT, Int.reduceLE, Nat.reduceSub, Nat.reduceMul, Nat.reduceEqDiff, joinBR, d, em]
  clear d
  refine loopT.intro (fun st w' => ∃ (j : Nat) (zs : List Nat), a ≤ j ∧ j ≤ i - 1 ∧ st = [.int .i64 (j : Nat)] ∧ SU w' g n zs ∧ Sw a b xs zs ∧ Hole zs a i j ∧ Ext [g] w w')
    (fun st _ => match st with
      | [.int _ y] => y.toNat
      | _ => 0) ⟨i - 1, us, by omega, by omega, rfl, h6, hp6, hH6, hx6⟩ ?_
  rintro st w8 ⟨j, zs8, haj, hj, rfl, h8, hp8, hH8, hx8⟩ _
  obtain ⟨cur8, hb8, hl8, hc8⟩ := h8.at'
  have hlen8 := h8.len
  by_cases hj1 : 1 ≤ j
  rotate_left
  · have d : decide (1 ≤ ((j : Nat) : Int)) = false := decide_eq_false (by omega)
    simp (disch := first | assumption | omega | (simp only [szR] <;> omega) | rfl | decide) only [gen0, gen1, gen2, rulesZ, litR, bolR, Nat.reduceAdd, Nat.reduceLeDiff, numR, memR, valR, heapR, updR, intR, decR, extR, slR, segR, thenR, pnR, Int.reduceToNat, Int.reduceAdd, Int.reduceSub, Int.reduceLT, Int.reduceLE, Nat.reduceSub, Nat.reduceMul, Nat.reduceEqDiff, joinBR, d]
    exact HJ9 zs8 w8 h8 hp8 (hH8.done fun h => by omega) hx8
  have d : decide (1 ≤ ((j : Nat) : Int)) = true := decide_eq_true (by omega)
  have gj := hc8 j (by omega)
  have gk := hc8 (j - 1) (by omega)
  have ej : ((j : Nat) : Int) - 1 = ((j - 1 : Nat) : Int) := by omega
  simp (disch := first | assumption | omega | (simp only [szR] <;> omega) | rfl | decide) only [gen0, gen1, gen2, rulesZ, litR, bolR, Nat.reduceAdd, Nat.reduceLeDiff, numR, memR, valR, heapR, updR, intR, decR, extR, slR, segR, thenR, pnR, Int.reduceToNat, Int.reduceAdd, Int.reduceSub, Int.reduceLT, Int.reduceLE, Nat.reduceSub, Nat.reduceMul, Nat.reduceEqDiff, joinBR, d]
  clear d
  refine joinL.intro fun J17 hJ17 => ?_
  rw [drewK_eq]
  simp (disch := first | assumption | omega | (simp only [szR] <;> omega) | rfl | decide) only [gen0, gen1, gen2, rulesZ, litR, bolR, Nat.reduceAdd, Nat.reduceLeDiff, numR, memR, valR, heapR, updR, intR, decR, extR, slR, segR, thenR, pnR, Int.reduceToNat, Int.reduceAdd, Int.reduceSub, Int.reduceLT, Int.reduceLE, Nat.reduceSub, Nat.reduceMul, Nat.reduceEqDiff, joinBR, hb8, gj, ej, gk]
  refine lessK (fun hlt2 => ?_) (fun hge2 => ?_)
  · rw [V_get (by omega), V_get (by omega)] at hlt2
    have haj2 : a < j := by
      apply Classical.byContradiction
      intro hc
      have e : j = a := by omega
      have h1 := hp8.pres (fun x => V xs (a - 1) ≤ x) (fun k k1 k2 => hLo (by omega) k k1 k2) a (Nat.le_refl _) hab
      have h2 := hp8.out (a - 1) (.inl (by omega))
      rw [e, h2] at hlt2
      omega
    simp (disch := first | assumption | omega | (simp only [szR] <;> omega) | rfl | decide) only [gen0, gen1, gen2, rulesZ, litR, bolR, Nat.reduceAdd, Nat.reduceLeDiff, numR, memR, valR, heapR, updR, intR, decR, extR, slR, segR, thenR, pnR, Int.reduceToNat, Int.reduceAdd, Int.reduceSub, Int.reduceLT, Int.reduceLE, Nat.reduceSub, Nat.reduceMul, Nat.reduceEqDiff, joinBR, Bool.not_true]
    simp (disch := first | assumption | omega | (simp only [szR] <;> omega) | rfl | decide) only [gen0, gen1, gen2, rulesZ, litR, bolR, Nat.reduceAdd, Nat.reduceLeDiff, numR, memR, valR, heapR, updR, intR, decR, extR, slR, segR, thenR, pnR, Int.reduceToNat, Int.reduceAdd, Int.reduceSub, Int.reduceLT, Int.reduceLE, Nat.reduceSub, Nat.reduceMul, Nat.reduceEqDiff, hb8, gj, ej, gk, and_self]
    obtain ⟨us, h9, hp9, hx9⟩ := SU.swap h8.drew.drew hb8 hl8 hc8 (i := j) (j := j - 1) (by omega) (by omega)
    apply hJ17
    intro _
    simp (disch := first | assumption | omega | (simp only [szR] <;> omega) | rfl | decide) only [gen0, gen1, gen2, rulesZ, litR, bolR, Nat.reduceAdd, Nat.reduceLeDiff, numR, memR, valR, heapR, updR, intR, decR, extR, slR, segR, thenR, pnR, Int.reduceToNat, Int.reduceAdd, Int.reduceSub, Int.reduceLT, Int.reduceLE, Nat.reduceSub, Nat.reduceMul, Nat.reduceEqDiff, ej]
    exact ⟨⟨j - 1, us, by omega, by omega, rfl, h9, hp8.trans (hp9.sw (by omega) (by omega)), hH8.step haj2 (by omega) hlt2 hp9, xG (xE (xE hx8 (dE _)) (dE _)) hx9⟩, by omega⟩
  · rw [V_get (by omega), V_get (by omega)] at hge2
    simp (disch := first | assumption | omega | (simp only [szR] <;> omega) | rfl | decide) only [gen0, gen1, gen2, rulesZ, litR, bolR, Nat.reduceAdd, Nat.reduceLeDiff, numR, memR, valR, heapR, updR, intR, decR, extR, slR, segR, thenR, pnR, Int.reduceToNat, Int.reduceAdd, Int.reduceSub, Int.reduceLT, Int.reduceLE, Nat.reduceSub, Nat.reduceMul, Nat.reduceEqDiff, joinBR, Bool.not_false]
    exact HJ9 zs8 _ h8.drew hp8 (hH8.done fun _ => hge2) (xE hx8 (dE _))
end Go.Proofs.Ytgnibcaflidjmaa
