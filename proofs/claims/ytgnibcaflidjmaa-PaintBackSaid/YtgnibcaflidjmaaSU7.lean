/- Numbers put in order: the numbers stay, their order alone turns; conditions: those of each theorem. -/
import Derived.Test.YtgnibcaflidjmaaSU6
namespace Go.Proofs.Ytgnibcaflidjmaa
open Go.Fx
set_option maxRecDepth 100000
set_option linter.unusedSimpArgs false
set_option linter.unusedVariables false
set_option maxHeartbeats 1000000
/-- from a on all are at least what is ahead of it. -/
def Lo (xs : List Nat) (a b : Nat) : Prop := 0 < a → ∀ k, a ≤ k → k < b → V xs (a - 1) ≤ V xs k
theorem Lo.sw {xs ys : List Nat} {a b c d : Nat} (h : Lo xs a b) (hs : Sw a b xs ys) : Lo ys a b := by
  intro h0 k k1 k2
  rw [hs.out (a - 1) (.inl (by omega))]
  exact hs.pres (fun x => V xs (a - 1) ≤ x) (fun k k1 k2 => h h0 k k1 k2) k k1 k2
/-- where this part is in order all is. -/
def Todo (xs ys : List Nat) (a b c d : Nat) : Prop := ∀ zs, Sw c d ys zs → Asc zs c d → Asc zs a b
theorem Todo.sw {xs ys ws : List Nat} {a b c d : Nat} (h : Todo xs ys a b c d) (hs : Sw c d ys ws) : Todo xs ws a b c d := fun zs h1 h2 => h zs (hs.trans h1) h2
theorem Todo.eq {xs ys ws : List Nat} {a b c d i P : Nat} (h : Todo xs ys a b c d) (hs : Sw c d ys ws) (hi : c < i) (hid : i ≤ d) (h1 : ∀ k, c ≤ k → k < i → V ws k = P) (h2 : ∀ k, i ≤ k → k < d → P < V ws k) : Todo xs ws a b i d := by
  intro zs hz ha
  refine h zs (hs.trans (hz.mono (by omega) (Nat.le_refl _))) fun k k1 k2 => ?_
  have ho : ∀ k, c ≤ k → k < i → V zs k = P := fun k k1 k2 => (hz.out k (.inl k2)).trans (h1 k k1 k2)
  by_cases c1 : i ≤ k
  · exact ha k c1 k2
  · rw [ho k k1 (by omega)]
    by_cases c2 : k + 1 < i
    · rw [ho (k + 1) (by omega) c2]
      exact Nat.le_refl _
    · exact Nat.le_of_lt (hz.pres (fun x => P < x) h2 (k + 1) (by omega) k2)
theorem Todo.left {xs ys ws vs : List Nat} {a b c d j P : Nat} (h : Todo xs ys a b c d) (hs : Sw c d ys ws) (hcj : c ≤ j) (hjd : j < d) (hp : Part ws c d j P) (hv : Sw c j ws vs) (hav : Asc vs c j) : Todo xs vs a b (j + 1) d := by
  obtain ⟨p1, p2, p3⟩ := hp
  intro zs hz ha
  refine h zs ((hs.trans (hv.mono (Nat.le_refl _) (by omega))).trans (hz.mono (by omega) (Nat.le_refl _))) fun k k1 k2 => ?_
  have ho : ∀ k, k < j + 1 → V zs k = V vs k := fun k hk => hz.out k (.inl hk)
  have hj : V vs j = P := (hv.out j (.inr (Nat.le_refl _))).trans p1
  by_cases c1 : j + 1 ≤ k
  · exact ha k c1 k2
  · rw [ho k (by omega)]
    by_cases c2 : k = j
    · subst c2
      rw [hj]
      refine hz.pres (fun x => P ≤ x) (fun t t1 t2 => ?_) (k + 1) (by omega) k2
      show P ≤ V vs t
      rw [hv.out t (.inr (by omega))]
      exact p3 t (by omega) t2
    · rw [ho (k + 1) (by omega)]
      by_cases c3 : k + 1 = j
      · rw [c3, hj]
        exact Nat.le_of_lt (hv.pres (fun x => x < P) p2 k k1 (by omega))
      · exact hav k k1 (by omega)
theorem Todo.right {xs ys ws vs : List Nat} {a b c d j P : Nat} (h : Todo xs ys a b c d) (hs : Sw c d ys ws) (hcj : c ≤ j) (hjd : j < d) (hp : Part ws c d j P) (hv : Sw (j + 1) d ws vs) (hav : Asc vs (j + 1) d) : Todo xs vs a b c j := by
  obtain ⟨p1, p2, p3⟩ := hp
  intro zs hz ha
  refine h zs ((hs.trans (hv.mono (by omega) (Nat.le_refl _))).trans (hz.mono (Nat.le_refl _) (by omega))) fun k k1 k2 => ?_
  have ho : ∀ k, j ≤ k → V zs k = V vs k := fun k hk => hz.out k (.inr hk)
  have hj : V vs j = P := (hv.out j (.inl (by omega))).trans p1
  by_cases c1 : k + 1 < j
  · exact ha k k1 c1
  · rw [ho (k + 1) (by omega)]
    by_cases c2 : k + 1 = j
    · rw [c2, hj]
      refine Nat.le_of_lt (hz.pres (fun x => x < P) (fun t t1 t2 => ?_) k k1 (by omega))
      show V vs t < P
      rw [hv.out t (.inl (by omega))]
      exact p2 t t1 t2
    · rw [ho k (by omega)]
      by_cases c3 : k = j
      · subst c3
        rw [hj]
        exact hv.pres (fun x => P ≤ x) (fun t t1 t2 => p3 t (by omega) t2) (k + 1) (by omega) k2
      · exact hav k (by omega) k2
theorem pdq_spec {g n c : Nat} (hn : n < 1000000) : ∀ (D : Nat) {w : World} {a b l : Nat} {xs : List Nat}, b - a < D → a ≤ b → b ≤ n → l < 1000 → Lo xs a b → SU w g n xs → ∀ {K : Value → World → Prop},
    (∀ ys w', SU w' g n ys → Sw a b xs ys → Asc ys a b → Ext [g] w w' → K (.tuple #[]) w') →
    callsK Try.prog 85 #[.slice (some ⟨g, 0, none⟩) n c, .int .i64 (a : Nat), .int .i64 (b : Nat), .int .i64 (l : Nat)] w K := by
  intro D
  induction D with
  | zero => intro w a b l xs hD; omega
  | succ D ih =>
  intro w a b l xs hD hab hbn hl hlo h K hK
  apply F85_ok
  unfold F85
  refine loopT.intro (fun st w' => ∃ (a' b' l' : Nat) (p z : Bool) (zs : List Nat), a ≤ a' ∧ a' ≤ b' ∧ b' ≤ b ∧ l' ≤ l ∧ st = [.int .i64 (l' : Nat), .int .i64 (a' : Nat), .bool p, .bool z, .int .i64 (b' : Nat)] ∧ SU w' g n zs ∧ Sw a b xs zs ∧ Lo zs a' b' ∧ Todo xs zs a b a' b' ∧ Ext [g] w w')
    (fun st _ => match st with
      | [_, .int _ x, _, _, .int _ y] => (y - x).toNat
      | _ => 0) ⟨a, b, l, true, true, xs, Nat.le_refl _, hab, Nat.le_refl _, Nat.le_refl _, rfl, h, Sw.refl _ _ _, hlo, fun _ _ h => h, Ext.refl⟩ ?_
  rintro st w2 ⟨a', b', l', p, z, zs, ha', hab', hb', hl', rfl, h2, hp2, hL2, hT2, hx2⟩ _
  obtain ⟨m, rfl⟩ : ∃ m, b' = a' + m := ⟨b' - a', by omega⟩
  have e1 : ((a' + m : Nat) : Int) - (a' : Int) = (m : Int) := by omega
  by_cases hm : m ≤ 12
  · have d : decide (((m : Nat) : Int) ≤ 12) = true := decide_eq_true (by omega)
    simp (disch := first | assumption | omega | (simp only [szR] <;> omega) | rfl | decide) only [gen0, gen1, gen2, rulesZ, litR, bolR, Nat.reduceAdd, Nat.reduceLeDiff, numR, memR, valR, heapR, updR, intR, decR, extR, slR, segR, thenR, pnR, Int.reduceToNat, Int.reduceAdd, Int.reduceSub, Int.reduceLT, Int.reduceLE, Nat.reduceSub, Nat.reduceMul, Nat.reduceEqDiff, joinBR, e1, d]
    refine insertion_spec h2 hab' (by omega) hn fun ys w' k1 k2 kA k3 => ?_
    exact hK ys w' k1 (hp2.trans (k2.mono ha' hb')) (hT2 ys k2 kA) (xG hx2 k3)
  have d : decide (((m : Nat) : Int) ≤ 12) = false := decide_eq_false (by omega)
  by_cases hl0 : l' = 0
  · subst hl0
    simp (disch := first | assumption | omega | (simp only [szR] <;> omega) | rfl | decide) only [gen0, gen1, gen2, rulesZ, litR, bolR, Nat.reduceAdd, Nat.reduceLeDiff, numR, memR, valR, heapR, updR, intR, decR, extR, slR, segR, thenR, pnR, Int.reduceToNat, Int.reduceAdd, Int.reduceSub, Int.reduceLT, Int.reduceLE, Nat.reduceSub, Nat.reduceMul, Nat.reduceEqDiff, joinBR, e1, d]
    refine heapSort_spec h2 (by omega) (by omega) hn fun ys w' k1 k2 kA k3 => ?_
    exact hK ys w' k1 (hp2.trans (k2.mono ha' hb')) (hT2 ys k2 kA) (xG hx2 k3)
  have d2 : (((l' : Nat) : Int) == 0) = false := by simp; omega
  have d3 : decide (((l' : Nat) : Int) = 0) = false := decide_eq_false (by omega)
  simp (disch := first | assumption | omega | (simp only [szR] <;> omega) | rfl | decide) only [gen0, gen1, gen2, rulesZ, litR, bolR, Nat.reduceAdd, Nat.reduceLeDiff, numR, memR, valR, heapR, updR, intR, decR, extR, slR, segR, thenR, pnR, Int.reduceToNat, Int.reduceAdd, Int.reduceSub, Int.reduceLT, Int.reduceLE, Nat.reduceSub, Nat.reduceMul, Nat.reduceEqDiff, joinBR, e1, d, d2, d3]
  refine joinL.intro fun J2 hJ2 => ?_
  have HJ2 : ∀ (l2 : Nat) ys w', l2 ≤ l' → SU w' g n ys → Sw a' (a' + m) zs ys → Ext [g] w w' → J2 [.int .i64 (l2 : Nat)] w' := by
    intro l2 ys w3 hl2 h3 hp3 hx3
    apply hJ2
    intro _
    clear hJ2
    refine choosePivot_spec h3 (by omega) (by omega) hn fun pv hint w4 hpa hpb hh hx4 => ?_
    have h4 := h3.ext hx4 (by simp)
    have hx4 := xE hx3 hx4
    simp (disch := first | assumption | omega | (simp only [szR] <;> omega) | rfl | decide) only [gen0, gen1, gen2, rulesZ, litR, bolR, Nat.reduceAdd, Nat.reduceLeDiff, numR, memR, valR, heapR, updR, intR, decR, extR, slR, segR, thenR, pnR, Int.reduceToNat, Int.reduceAdd, Int.reduceSub, Int.reduceLT, Int.reduceLE, Nat.reduceSub, Nat.reduceMul, Nat.reduceEqDiff, joinBR]
    refine joinL.intro fun J4 hJ4 => ?_
    have HJ4 : ∀ (pv : Nat) (hint : Int) ys w', a' ≤ pv → pv < a' + m → (hint = 0 ∨ hint = 1 ∨ hint = 2) → SU w' g n ys → Sw a' (a' + m) zs ys → Ext [g] w w' → J4 [.int .i64 (pv : Nat), .int .i64 hint] w' := by
      intro pv hint ys w5 hpa hpb hh h5 hp5 hx5
      apply hJ4
      intro _
      clear hJ4
      refine joinL.intro fun J6 hJ6 => ?_
      have HJ6 : ∀ ys w', SU w' g n ys → Sw a' (a' + m) zs ys → Ext [g] w w' → J6 [] w' := by
        intro ys w6 h6 hp6 hx6
        apply hJ6
        intro _
        clear hJ6
        obtain ⟨cur, hb, hcl, hc⟩ := h6.at'
        have hlen := h6.len
        rw [drewK_eq]
        by_cases ha0 : 0 < a'
        rotate_left
        have d4 : decide ((0 : Int) < ((a' : Nat) : Int)) = false := decide_eq_false (by omega)
        simp (disch := first | assumption | omega | (simp only [szR] <;> omega) | rfl | decide) only [gen0, gen1, gen2, rulesZ, litR, bolR, Nat.reduceAdd, Nat.reduceLeDiff, numR, memR, valR, heapR, updR, intR, decR, extR, slR, segR, thenR, pnR, Int.reduceToNat, Int.reduceAdd, Int.reduceSub, Int.reduceLT, Int.reduceLE, Nat.reduceSub, Nat.reduceMul, Nat.reduceEqDiff, joinBR, d4]
        rotate_left
        have d4 : decide ((0 : Int) < ((a' : Nat) : Int)) = true := decide_eq_true (by omega)
        have e5 : ((a' : Nat) : Int) - 1 = ((a' - 1 : Nat) : Int) := by omega
        have g1 := hc (a' - 1) (by omega)
        have g2 := hc pv (by omega)
        simp (disch := first | assumption | omega | (simp only [szR] <;> omega) | rfl | decide) only [gen0, gen1, gen2, rulesZ, litR, bolR, Nat.reduceAdd, Nat.reduceLeDiff, numR, memR, valR, heapR, updR, intR, decR, extR, slR, segR, thenR, pnR, Int.reduceToNat, Int.reduceAdd, Int.reduceSub, Int.reduceLT, Int.reduceLE, Nat.reduceSub, Nat.reduceMul, Nat.reduceEqDiff, joinBR, d4, e5, hb, g1, g2]
        refine lessK (fun _ => ?_) (fun hge => ?_)
        rotate_left
        rw [V_get (by omega), V_get (by omega)] at hge
        simp (disch := first | assumption | omega | (simp only [szR] <;> omega) | rfl | decide) only [gen0, gen1, gen2, rulesZ, litR, bolR, Nat.reduceAdd, Nat.reduceLeDiff, numR, memR, valR, heapR, updR, intR, decR, extR, slR, segR, thenR, pnR, Int.reduceToNat, Int.reduceAdd, Int.reduceSub, Int.reduceLT, Int.reduceLE, Nat.reduceSub, Nat.reduceMul, Nat.reduceEqDiff, joinBR, Bool.not_false]
        refine partEq_spec h6.drew (by omega) (by omega) hpa hpb hn fun i us w7 k1 k2 k3 k4 kL kR k5 => ?_
        simp (disch := first | assumption | omega | (simp only [szR] <;> omega) | rfl | decide) only [gen0, gen1, gen2, rulesZ, litR, bolR, Nat.reduceAdd, Nat.reduceLeDiff, numR, memR, valR, heapR, updR, intR, decR, extR, slR, segR, thenR, pnR, Int.reduceToNat, Int.reduceAdd, Int.reduceSub, Int.reduceLT, Int.reduceLE, Nat.reduceSub, Nat.reduceMul, Nat.reduceEqDiff, joinBR]
        have hL6 : Lo ys a' (a' + m) := Lo.sw (c := 0) (d := 0) hL2 hp6
        have kE : ∀ k, a' ≤ k → k < i → V us k = V ys pv := fun k q1 q2 => by
          have h1 := kL k q1 q2
          have h2 := k4.pres (fun x => V ys (a' - 1) ≤ x) (fun t t1 t2 => hL6 ha0 t t1 t2) k q1 (by omega)
          omega
        have hL7 : Lo us i (a' + m) := fun _ k q1 q2 => by
          rw [kE (i - 1) (by omega) (by omega)]
          exact Nat.le_of_lt (kR k q1 q2)
        exact ⟨⟨i, a' + m, l2, p, z, us, by omega, by omega, by omega, by omega, rfl, k3, hp2.trans ((hp6.trans k4).mono ha' hb'), hL7, hT2.eq (hp6.trans k4) k1 k2 kE kR, xG (xE hx6 (dE _)) k5⟩, by omega⟩
        rotate_left
        simp (disch := first | assumption | omega | (simp only [szR] <;> omega) | rfl | decide) only [gen0, gen1, gen2, rulesZ, litR, bolR, Nat.reduceAdd, Nat.reduceLeDiff, numR, memR, valR, heapR, updR, intR, decR, extR, slR, segR, thenR, pnR, Int.reduceToNat, Int.reduceAdd, Int.reduceSub, Int.reduceLT, Int.reduceLE, Nat.reduceSub, Nat.reduceMul, Nat.reduceEqDiff, joinBR, Bool.not_true]
        all_goals
          refine part_spec h6.drew (by omega) (by omega) hpa hpb hn fun j z2 us w7 k1 k2 k3 k4 kP k5 => ?_
          have k6 : Sw a' (a' + m) zs us := hp6.trans k4
          have hL7 : Lo us a' (a' + m) := Lo.sw (c := 0) (d := 0) hL2 k6
          have hLl : Lo us a' j := fun h0 k q1 q2 => hL7 h0 k q1 (by omega)
          have hLr : Lo us (j + 1) (a' + m) := fun h0 k q1 q2 => by
            rw [show j + 1 - 1 = j by omega, kP.1]
            exact kP.2.2 k (by omega) q2
          have k7 : Ext [g] w w7 := xG (xE hx6 (dE _)) k5
          have f1 : ((j : Nat) : Int) - (a' : Int) = ((j - a' : Nat) : Int) := by omega
          have f2 : ((a' + m : Nat) : Int) - (j : Int) = ((a' + m - j : Nat) : Int) := by omega
          have f3 : ((m : Nat) : Int).tdiv 8 = ((m / 8 : Nat) : Int) := by
            rw [Int.tdiv_eq_ediv_of_nonneg (by omega)]
            omega
          have f4 : ((m : Nat) : Int) / 8 = ((m / 8 : Nat) : Int) := by omega
          have f5 : ((j : Nat) : Int) + 1 = ((j + 1 : Nat) : Int) := by omega
          obtain ⟨q, hq⟩ : ∃ q, q = m / 8 := ⟨_, rfl⟩
          rw [← hq] at f3 f4
          by_cases hlt : j - a' < a' + m - j
          · have d6 : decide (((j - a' : Nat) : Int) < ((a' + m - j : Nat) : Int)) = true := decide_eq_true (by omega)
            simp (disch := first | assumption | omega | (simp only [szR] <;> omega) | rfl | decide) only [gen0, gen1, gen2, rulesZ, litR, bolR, Nat.reduceAdd, Nat.reduceLeDiff, numR, memR, valR, heapR, updR, intR, decR, extR, slR, segR, thenR, pnR, Int.reduceToNat, Int.reduceAdd, Int.reduceSub, Int.reduceLT, Int.reduceLE, Nat.reduceSub, Nat.reduceMul, Nat.reduceEqDiff, joinBR, e1, f1, f2, f3, f4, d6]
            refine ih (by omega) (by omega) (by omega) (by omega) hLl k3 fun vs w8 r1 r2 rA r3 => ?_
            simp (disch := first | assumption | omega | (simp only [szR] <;> omega) | rfl | decide) only [gen0, gen1, gen2, rulesZ, litR, bolR, Nat.reduceAdd, Nat.reduceLeDiff, numR, memR, valR, heapR, updR, intR, decR, extR, slR, segR, thenR, pnR, Int.reduceToNat, Int.reduceAdd, Int.reduceSub, Int.reduceLT, Int.reduceLE, Nat.reduceSub, Nat.reduceMul, Nat.reduceEqDiff, joinBR, f5]
            exact ⟨⟨j + 1, a' + m, l2, z2, _, vs, by omega, by omega, by omega, by omega, rfl, r1, hp2.trans ((k6.trans (r2.mono (Nat.le_refl _) (by omega))).mono ha' hb'), fun _ k q1 q2 => by
              rw [show j + 1 - 1 = j by omega, r2.out j (.inr (Nat.le_refl _)), r2.out k (.inr (by omega))]
              exact hLr (by omega) k q1 q2, hT2.left k6 k1 k2 kP r2 rA, xG k7 r3⟩, by omega⟩
          · have d6 : decide (((j - a' : Nat) : Int) < ((a' + m - j : Nat) : Int)) = false := decide_eq_false (by omega)
            simp (disch := first | assumption | omega | (simp only [szR] <;> omega) | rfl | decide) only [gen0, gen1, gen2, rulesZ, litR, bolR, Nat.reduceAdd, Nat.reduceLeDiff, numR, memR, valR, heapR, updR, intR, decR, extR, slR, segR, thenR, pnR, Int.reduceToNat, Int.reduceAdd, Int.reduceSub, Int.reduceLT, Int.reduceLE, Nat.reduceSub, Nat.reduceMul, Nat.reduceEqDiff, joinBR, e1, f1, f2, f3, f4, d6, f5]
            refine ih (by omega) (by omega) (by omega) (by omega) hLr k3 fun vs w8 r1 r2 rA r3 => ?_
            simp (disch := first | assumption | omega | (simp only [szR] <;> omega) | rfl | decide) only [gen0, gen1, gen2, rulesZ, litR, bolR, Nat.reduceAdd, Nat.reduceLeDiff, numR, memR, valR, heapR, updR, intR, decR, extR, slR, segR, thenR, pnR, Int.reduceToNat, Int.reduceAdd, Int.reduceSub, Int.reduceLT, Int.reduceLE, Nat.reduceSub, Nat.reduceMul, Nat.reduceEqDiff, joinBR, f5]
            exact ⟨⟨a', j, l2, z2, _, vs, by omega, by omega, by omega, by omega, rfl, r1, hp2.trans ((k6.trans (r2.mono (by omega) (Nat.le_refl _))).mono ha' hb'), fun h0 k q1 q2 => by
              rw [r2.out (a' - 1) (.inl (by omega)), r2.out k (.inl (by omega))]
              exact hLl h0 k q1 q2, hT2.right k6 k1 k2 kP r2 rA, xG k7 r3⟩, by omega⟩
      clear hJ6
      have HP : ∀ (K' : Value → World → Prop), (∀ v ys w', SU w' g n ys → Sw a' (a' + m) zs ys → (v = true → Asc ys a' (a' + m)) → Ext [g] w w' → K' (.bool v) w') → callsK Try.prog 102 #[.slice (some ⟨g, 0, none⟩) n c, .int .i64 (a' : Nat), .int .i64 ((a' + m : Nat) : Int)] w5 K' := by
        intro K' hK'
        refine partial_spec h5 (by omega) (by omega) hn (Lo.sw (c := 0) (d := 0) hL2 hp5) fun v ys w6 k1 k2 kA k3 => ?_
        exact hK' v ys w6 k1 (hp5.trans k2) kA (xG hx5 k3)
      cases p <;> cases z <;> rcases hh with rfl | rfl | rfl <;> simp (disch := first | assumption | omega | (simp only [szR] <;> omega) | rfl | decide) only [gen0, gen1, gen2, rulesZ, litR, bolR, Nat.reduceAdd, Nat.reduceLeDiff, numR, memR, valR, heapR, updR, intR, decR, extR, slR, segR, thenR, pnR, Int.reduceToNat, Int.reduceAdd, Int.reduceSub, Int.reduceLT, Int.reduceLE, Nat.reduceSub, Nat.reduceMul, Nat.reduceEqDiff, joinBR] <;> first
        | exact HJ6 ys w5 h5 hp5 hx5
        | (refine HP _ fun v ys w6 k1 k2 kA k3 => ?_
           cases v
           · simp (disch := first | assumption | omega | (simp only [szR] <;> omega) | rfl | decide) only [gen0, gen1, gen2, rulesZ, litR, bolR, Nat.reduceAdd, Nat.reduceLeDiff, numR, memR, valR, heapR, updR, intR, decR, extR, slR, segR, thenR, pnR, Int.reduceToNat, Int.reduceAdd, Int.reduceSub, Int.reduceLT, Int.reduceLE, Nat.reduceSub, Nat.reduceMul, Nat.reduceEqDiff, joinBR]
             exact HJ6 ys w6 k1 k2 k3
           · simp (disch := first | assumption | omega | (simp only [szR] <;> omega) | rfl | decide) only [gen0, gen1, gen2, rulesZ, litR, bolR, Nat.reduceAdd, Nat.reduceLeDiff, numR, memR, valR, heapR, updR, intR, decR, extR, slR, segR, thenR, pnR, Int.reduceToNat, Int.reduceAdd, Int.reduceSub, Int.reduceLT, Int.reduceLE, Nat.reduceSub, Nat.reduceMul, Nat.reduceEqDiff, joinBR]
             exact hK ys w6 k1 (hp2.trans (k2.mono ha' hb')) (hT2 ys k2 (kA rfl)) k3)
    clear hJ4
    rcases hh with rfl | rfl | rfl
    · simp (disch := first | assumption | omega | (simp only [szR] <;> omega) | rfl | decide) only [gen0, gen1, gen2, rulesZ, litR, bolR, Nat.reduceAdd, Nat.reduceLeDiff, numR, memR, valR, heapR, updR, intR, decR, extR, slR, segR, thenR, pnR, Int.reduceToNat, Int.reduceAdd, Int.reduceSub, Int.reduceLT, Int.reduceLE, Nat.reduceSub, Nat.reduceMul, Nat.reduceEqDiff, joinBR]
      exact HJ4 pv 0 ys w4 hpa hpb (.inl rfl) h4 hp3 hx4
    · simp (disch := first | assumption | omega | (simp only [szR] <;> omega) | rfl | decide) only [gen0, gen1, gen2, rulesZ, litR, bolR, Nat.reduceAdd, Nat.reduceLeDiff, numR, memR, valR, heapR, updR, intR, decR, extR, slR, segR, thenR, pnR, Int.reduceToNat, Int.reduceAdd, Int.reduceSub, Int.reduceLT, Int.reduceLE, Nat.reduceSub, Nat.reduceMul, Nat.reduceEqDiff, joinBR]
      exact HJ4 pv 1 ys w4 hpa hpb (.inr (.inl rfl)) h4 hp3 hx4
    · simp (disch := first | assumption | omega | (simp only [szR] <;> omega) | rfl | decide) only [gen0, gen1, gen2, rulesZ, litR, bolR, Nat.reduceAdd, Nat.reduceLeDiff, numR, memR, valR, heapR, updR, intR, decR, extR, slR, segR, thenR, pnR, Int.reduceToNat, Int.reduceAdd, Int.reduceSub, Int.reduceLT, Int.reduceLE, Nat.reduceSub, Nat.reduceMul, Nat.reduceEqDiff, joinBR]
      refine reverse_spec h4 (by omega) (by omega) hn fun ys w5 k1 k2 k3 => ?_
      have e2 : ((a' + m : Nat) : Int) - 1 = ((a' + m - 1 : Nat) : Int) := by omega
      have e3 : ((pv : Nat) : Int) - (a' : Int) = ((pv - a' : Nat) : Int) := by omega
      have e4 : ((a' + m - 1 : Nat) : Int) - ((pv - a' : Nat) : Int) = ((a' + m - 1 - (pv - a') : Nat) : Int) := by omega
      simp (disch := first | assumption | omega | (simp only [szR] <;> omega) | rfl | decide) only [gen0, gen1, gen2, rulesZ, litR, bolR, Nat.reduceAdd, Nat.reduceLeDiff, numR, memR, valR, heapR, updR, intR, decR, extR, slR, segR, thenR, pnR, Int.reduceToNat, Int.reduceAdd, Int.reduceSub, Int.reduceLT, Int.reduceLE, Nat.reduceSub, Nat.reduceMul, Nat.reduceEqDiff, joinBR, e2, e3, e4]
      exact HJ4 (a' + m - 1 - (pv - a')) 1 ys w5 (by omega) (by omega) (.inr (.inl rfl)) k1 (hp3.trans k2) (xG hx4 k3)
  clear hJ2
  cases z
  · simp (disch := first | assumption | omega | (simp only [szR] <;> omega) | rfl | decide) only [gen0, gen1, gen2, rulesZ, litR, bolR, Nat.reduceAdd, Nat.reduceLeDiff, numR, memR, valR, heapR, updR, intR, decR, extR, slR, segR, thenR, pnR, Int.reduceToNat, Int.reduceAdd, Int.reduceSub, Int.reduceLT, Int.reduceLE, Nat.reduceSub, Nat.reduceMul, Nat.reduceEqDiff, joinBR]
    refine break_spec h2 (by omega) (by omega) hn fun ys w3 k1 k2 k3 => ?_
    have e2 : ((l' : Nat) : Int) - 1 = ((l' - 1 : Nat) : Int) := by omega
    simp (disch := first | assumption | omega | (simp only [szR] <;> omega) | rfl | decide) only [gen0, gen1, gen2, rulesZ, litR, bolR, Nat.reduceAdd, Nat.reduceLeDiff, numR, memR, valR, heapR, updR, intR, decR, extR, slR, segR, thenR, pnR, Int.reduceToNat, Int.reduceAdd, Int.reduceSub, Int.reduceLT, Int.reduceLE, Nat.reduceSub, Nat.reduceMul, Nat.reduceEqDiff, joinBR, e2]
    exact HJ2 (l' - 1) ys w3 (by omega) k1 k2 (xG hx2 k3)
  · simp (disch := first | assumption | omega | (simp only [szR] <;> omega) | rfl | decide) only [gen0, gen1, gen2, rulesZ, litR, bolR, Nat.reduceAdd, Nat.reduceLeDiff, numR, memR, valR, heapR, updR, intR, decR, extR, slR, segR, thenR, pnR, Int.reduceToNat, Int.reduceAdd, Int.reduceSub, Int.reduceLT, Int.reduceLE, Nat.reduceSub, Nat.reduceMul, Nat.reduceEqDiff, joinBR]
    exact HJ2 l' zs w2 (Nat.le_refl _) h2 (Sw.refl _ _ _) hx2
theorem lenB (n : Nat) (hn : n < 1000000) : Lib.bitLen ((n : Nat) : Int).toNat < 100 := by
  have e : Lib.bitLen ((n : Nat) : Int).toNat = Lib.bitLenAux 64 n := rfl
  rw [e]
  by_cases h : n = 0
  · subst h
    rw [Lib.bitLenAux_zero]
    omega
  · obtain ⟨h1, h2, h3⟩ := Lib.bitLenAux_bounds 64 n (by omega) h
    apply Classical.byContradiction
    intro hc
    have := Nat.pow_le_pow_right (n := 2) (by omega) (show 64 ≤ Lib.bitLenAux 64 n - 1 by omega)
    omega
theorem Sort_spec {w : World} {g n c : Nat} {xs : List Nat} (h : SU w g n xs) (hn : n < 1000000) {K : Value → World → Prop}
    (hK : ∀ ys w', SU w' g n ys → ys.Perm xs → Asc ys 0 n → Ext [g] w w' → K (.tuple #[]) w') :
    callsK Try.prog 68 #[.slice (some ⟨g, 0, none⟩) n c] w K := by
  apply F68_ok
  unfold F68
  simp (disch := first | assumption | omega | (simp only [szR] <;> omega) | rfl | decide) only [gen0, gen1, gen2, rulesZ, litR, bolR, Nat.reduceAdd, Nat.reduceLeDiff, numR, memR, valR, heapR, updR, intR, decR, extR, slR, segR, thenR, pnR, Int.reduceToNat, Int.reduceAdd, Int.reduceSub, Int.reduceLT, Int.reduceLE, Nat.reduceSub, Nat.reduceMul, Nat.reduceEqDiff]
  refine Calls.mono (Try.bits_Len (n : Int) w (by omega) (by omega)) ?_
  rintro e w' ⟨rfl, rfl⟩
  have hL := lenB n hn
  generalize Lib.bitLen ((n : Nat) : Int).toNat = L at hL ⊢
  refine ⟨_, rfl, ?_⟩
  simp (disch := first | assumption | omega | (simp only [szR] <;> omega) | rfl | decide) only [gen0, gen1, gen2, rulesZ, litR, bolR, Nat.reduceAdd, Nat.reduceLeDiff, numR, memR, valR, heapR, updR, intR, decR, extR, slR, segR, thenR, pnR, Int.reduceToNat, Int.reduceAdd, Int.reduceSub, Int.reduceLT, Int.reduceLE, Nat.reduceSub, Nat.reduceMul, Nat.reduceEqDiff]
  exact pdq_spec hn (n + 1) (a := 0) (b := n) (by omega) (by omega) (Nat.le_refl _) (by omega) (fun h0 => by omega) h fun ys w' k1 k2 k3 k4 => hK ys w' k1 k2.perm k3 k4
theorem Sort_nil {w : World} {K : Value → World → Prop} (hK : K (.tuple #[]) w) :
    callsK Try.prog 68 #[.slice none 0 0] w K := by
  apply F68_ok
  unfold F68
  simp (disch := first | assumption | omega | (simp only [szR] <;> omega) | rfl | decide) only [gen0, gen1, gen2, rulesZ, litR, bolR, Nat.reduceAdd, Nat.reduceLeDiff, numR, memR, valR, heapR, updR, intR, decR, extR, slR, segR, thenR, pnR, Int.reduceToNat, Int.reduceAdd, Int.reduceSub, Int.reduceLT, Int.reduceLE, Nat.reduceSub, Nat.reduceMul, Nat.reduceEqDiff]
  refine Calls.mono (Try.bits_Len 0 w (by omega) (by omega)) ?_
  rintro e w' ⟨rfl, rfl⟩
  refine ⟨_, rfl, ?_⟩
  simp (disch := first | assumption | omega | (simp only [szR] <;> omega) | rfl | decide) only [gen0, gen1, gen2, rulesZ, litR, bolR, Nat.reduceAdd, Nat.reduceLeDiff, numR, memR, valR, heapR, updR, intR, decR, extR, slR, segR, thenR, pnR, Int.reduceToNat, Int.reduceAdd, Int.reduceSub, Int.reduceLT, Int.reduceLE, Nat.reduceSub, Nat.reduceMul, Nat.reduceEqDiff]
  apply F85_ok
  unfold F85
  refine loopT.intro (fun st w2 => st = [.int .i64 ((Lib.bitLen (0 : Int).toNat : Nat) : Int), .int .i64 0, .bool true, .bool true, .int .i64 0] ∧ w2 = w') (fun _ _ => 0) ⟨rfl, rfl⟩ ?_
  rintro st w2 ⟨rfl, rfl⟩ _
  simp (disch := first | assumption | omega | (simp only [szR] <;> omega) | rfl | decide) only [gen0, gen1, gen2, rulesZ, litR, bolR, Nat.reduceAdd, Nat.reduceLeDiff, numR, memR, valR, heapR, updR, intR, decR, extR, slR, segR, thenR, pnR, Int.reduceToNat, Int.reduceAdd, Int.reduceSub, Int.reduceLT, Int.reduceLE, Nat.reduceSub, Nat.reduceMul, Nat.reduceEqDiff]
  apply F97_ok
  unfold F97
  simp (disch := first | assumption | omega | (simp only [szR] <;> omega) | rfl | decide) only [gen0, gen1, gen2, rulesZ, litR, bolR, Nat.reduceAdd, Nat.reduceLeDiff, numR, memR, valR, heapR, updR, intR, decR, extR, slR, segR, thenR, pnR, Int.reduceToNat, Int.reduceAdd, Int.reduceSub, Int.reduceLT, Int.reduceLE, Nat.reduceSub, Nat.reduceMul, Nat.reduceEqDiff]
  refine loopT.intro (fun st w3 => st = [.int .i64 1] ∧ w3 = w2) (fun _ _ => 0) ⟨rfl, rfl⟩ ?_
  rintro st w3 ⟨rfl, rfl⟩ _
  simp (disch := first | assumption | omega | (simp only [szR] <;> omega) | rfl | decide) only [gen0, gen1, gen2, rulesZ, litR, bolR, Nat.reduceAdd, Nat.reduceLeDiff, numR, memR, valR, heapR, updR, intR, decR, extR, slR, segR, thenR, pnR, Int.reduceToNat, Int.reduceAdd, Int.reduceSub, Int.reduceLT, Int.reduceLE, Nat.reduceSub, Nat.reduceMul, Nat.reduceEqDiff]
  exact hK
end Go.Proofs.Ytgnibcaflidjmaa
