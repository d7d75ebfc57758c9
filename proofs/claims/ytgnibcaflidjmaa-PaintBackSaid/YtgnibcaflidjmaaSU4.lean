/- Ranges parted; conditions: those of each theorem. -/
import Derived.Test.YtgnibcaflidjmaaSU3
namespace Go.Proofs.Ytgnibcaflidjmaa
open Go.Fx
set_option maxRecDepth 100000
set_option linter.unusedSimpArgs false
set_option linter.unusedVariables false
set_option maxHeartbeats 1000000
theorem pe_step {zs ws : List Nat} {a b i j P : Nat} (hx : Exch i j zs ws) (hai : a < i) (hij : i ≤ j) (h1 : V zs a = P) (h2 : ∀ k, a ≤ k → k < i → V zs k ≤ P) (h3 : ∀ k, j < k → k < b → P < V zs k) (hi : P < V zs i) (hj : V zs j ≤ P) :
    V ws a = P ∧ (∀ k, a ≤ k → k < i + 1 → V ws k ≤ P) ∧ (∀ k, j - 1 < k → k < b → P < V ws k) := by
  have hne : i ≠ j := fun e => by subst e; omega
  have hv := hx.2
  refine ⟨by rw [hv, if_neg (by omega), if_neg (by omega)]; exact h1, fun k k1 k2 => ?_, fun k k1 k2 => ?_⟩
  · rw [hv, if_neg (by omega)]
    by_cases e : k = i
    · rw [if_pos e]
      exact hj
    · rw [if_neg e]
      exact h2 k k1 (by omega)
  · rw [hv]
    by_cases e : k = j
    · rw [if_pos e]
      exact hi
    · rw [if_neg e, if_neg (by omega)]
      exact h3 k (by omega) k2
theorem pt_step {zs ws : List Nat} {a b i j P : Nat} (hx : Exch i j zs ws) (hai : a < i) (hij : i ≤ j) (h1 : V zs a = P) (h2 : ∀ k, a < k → k < i → V zs k < P) (h3 : ∀ k, j < k → k < b → P ≤ V zs k) (hi : P ≤ V zs i) (hj : V zs j < P) :
    V ws a = P ∧ (∀ k, a < k → k < i + 1 → V ws k < P) ∧ (∀ k, j - 1 < k → k < b → P ≤ V ws k) := by
  have hne : i ≠ j := fun e => by subst e; omega
  have hv := hx.2
  refine ⟨by rw [hv, if_neg (by omega), if_neg (by omega)]; exact h1, fun k k1 k2 => ?_, fun k k1 k2 => ?_⟩
  · rw [hv, if_neg (by omega)]
    by_cases e : k = i
    · rw [if_pos e]
      exact hj
    · rw [if_neg e]
      exact h2 k k1 (by omega)
  · rw [hv]
    by_cases e : k = j
    · rw [if_pos e]
      exact hi
    · rw [if_neg e, if_neg (by omega)]
      exact h3 k (by omega) k2
/-- parted by what is at m. -/
def Part (ys : List Nat) (a b m P : Nat) : Prop := V ys m = P ∧ (∀ k, a ≤ k → k < m → V ys k < P) ∧ (∀ k, m < k → k < b → P ≤ V ys k)
theorem pt_last {zs ws : List Nat} {a b i j P : Nat} (hx : Exch j a zs ws) (haj : a ≤ j) (hji : j < i) (h1 : V zs a = P) (h2 : ∀ k, a < k → k < i → V zs k < P) (h3 : ∀ k, j < k → k < b → P ≤ V zs k) : Part ws a b j P := by
  have hv := hx.2
  refine ⟨?_, fun k k1 k2 => ?_, fun k k1 k2 => ?_⟩
  · rw [hv]
    by_cases e : j = a
    · subst e
      rw [if_pos rfl]
      exact h1
    · rw [if_neg e, if_pos rfl]
      exact h1
  · rw [hv]
    by_cases e : k = a
    · rw [if_pos e]
      exact h2 j (by omega) hji
    · rw [if_neg e, if_neg (by omega)]
      exact h2 k (by omega) (by omega)
  · rw [hv, if_neg (by omega), if_neg (by omega)]
    exact h3 k k1 k2
theorem exch_first {xs ys : List Nat} {a p : Nat} (hx : Exch a p xs ys) : V ys a = V xs p := by
  rw [hx.2]
  by_cases e : a = p
  · subst e
    rw [if_pos rfl]
  · rw [if_neg e, if_pos rfl]
theorem partEq_spec {w : World} {g n c a b p : Nat} {xs : List Nat} (h : SU w g n xs) (hab : a < b) (hbn : b ≤ n) (hpa : a ≤ p) (hpb : p < b) (hn : n < 1000000) {K : Value → World → Prop}
    (hK : ∀ (i : Nat) ys w', a < i → i ≤ b → SU w' g n ys → Sw a b xs ys → (∀ k, a ≤ k → k < i → V ys k ≤ V xs p) → (∀ k, i ≤ k → k < b → V xs p < V ys k) → Ext [g] w w' → K (.int .i64 (i : Nat)) w') :
    callsK Try.prog 104 #[.slice (some ⟨g, 0, none⟩) n c, .int .i64 (a : Nat), .int .i64 (b : Nat), .int .i64 (p : Nat)] w K := by
  apply F104_ok
  unfold F104
  obtain ⟨cur, hb, hl, hc⟩ := h.at'
  have hlen := h.len
  have q1 := hc a (by omega)
  have q2 := hc p (by omega)
  refine joinL.intro fun J0 hJ0 => ?_
  rw [drewK_eq]
  simp (disch := first | assumption | omega | (simp only [szR] <;> omega) | rfl | decide) only [gen0, gen1, gen2, rulesZ, litR, bolR, Nat.reduceAdd, Nat.reduceLeDiff, numR, memR, valR, heapR, updR, intR, decR, extR, slR, segR, thenR, pnR, Int.reduceToNat, Int.reduceAdd, Int.reduceSub, Int.reduceLT, Int.reduceLE, Nat.reduceSub, Nat.reduceMul, Nat.reduceEqDiff, hb, q1, q2, and_self]
  obtain ⟨ys, h1, hp1, hx1⟩ := SU.swap h.drew hb hl hc (i := a) (j := p) (by omega) (by omega)
  have hva := exch_first hp1
  have hp1 := hp1.sw (a := a) (b := b) (by omega) (by omega)
  obtain ⟨P, hP⟩ : ∃ P, P = V xs p := ⟨_, rfl⟩
  rw [← hP] at hva hK
  apply hJ0
  intro _
  clear hJ0
  have hx1 := xG ((dE w).mono (by simp)) hx1
  generalize World.upd w.drew g ((cur.set a (.int .u64 (xs[p] : Nat))).set p (.int .u64 (xs[a] : Nat))) = w1 at h1 hx1 ⊢
  have e1 : ((a : Nat) : Int) + 1 = ((a + 1 : Nat) : Int) := by omega
  have e2 : ((b : Nat) : Int) - 1 = ((b - 1 : Nat) : Int) := by omega
  simp (disch := first | assumption | omega | (simp only [szR] <;> omega) | rfl | decide) only [gen0, gen1, gen2, rulesZ, litR, bolR, Nat.reduceAdd, Nat.reduceLeDiff, numR, memR, valR, heapR, updR, intR, decR, extR, slR, segR, thenR, pnR, Int.reduceToNat, Int.reduceAdd, Int.reduceSub, Int.reduceLT, Int.reduceLE, Nat.reduceSub, Nat.reduceMul, Nat.reduceEqDiff, e1, e2]
  refine loopT.intro (fun st w' => ∃ (i j : Nat) (zs : List Nat), a + 1 ≤ i ∧ i ≤ b ∧ a ≤ j ∧ j < b ∧ st = [.int .i64 (i : Nat), .int .i64 (j : Nat)] ∧ SU w' g n zs ∧ Sw a b xs zs ∧ V zs a = P ∧ (∀ k, a ≤ k → k < i → V zs k ≤ P) ∧ (∀ k, j < k → k < b → P < V zs k) ∧ Ext [g] w w')
    (fun st _ => match st with
      | [.int _ y, _] => b - y.toNat
      | _ => 0) ⟨a + 1, b - 1, ys, by omega, by omega, by omega, by omega, rfl, h1, hp1, hva, fun k k1 k2 => by rw [show k = a by omega, hva]; exact Nat.le_refl _, fun k k1 k2 => by omega, hx1⟩ ?_
  rintro st w2 ⟨i0, j0, zs, hi0, hi0', hj0, hj0', rfl, h2, hp2, hA2, hB2, hC2, hx2⟩ _
  obtain ⟨cur2, hb2, hl2, hc2⟩ := h2.at'
  have hlen2 := h2.len
  have ga := hc2 a (by omega)
  refine loopT.intro (fun st w' => ∃ (i : Nat), i0 ≤ i ∧ i ≤ b ∧ st = [.int .i64 (i : Nat), .int .i64 (j0 : Nat)] ∧ SU w' g n zs ∧ w'.heap[g]? = some (.cells cur2.toArray 28 (0, 0)) ∧ (∀ k, a ≤ k → k < i → V zs k ≤ P) ∧ Ext [g] w w')
    (fun st _ => match st with
      | [.int _ y, _] => b - y.toNat
      | _ => 0) ⟨i0, Nat.le_refl _, hi0', rfl, h2, hb2, hB2, hx2⟩ ?_
  rintro st w3 ⟨i, hi, hib, rfl, h3, hb3, hB3, hx3⟩ _
  have ei : ((i : Nat) : Int) + 1 = ((i + 1 : Nat) : Int) := by omega
  rw [drewK_eq]
  by_cases hij : i ≤ j0
  rotate_left
  have d1 : decide (((i : Nat) : Int) ≤ ((j0 : Nat) : Int)) = false := decide_eq_false (by omega)
  have hi0 : i ≤ j0 → P < V zs i := fun h => absurd h hij
  simp (disch := first | assumption | omega | (simp only [szR] <;> omega) | rfl | decide) only [gen0, gen1, gen2, rulesZ, litR, bolR, Nat.reduceAdd, Nat.reduceLeDiff, numR, memR, valR, heapR, updR, intR, decR, extR, slR, segR, thenR, pnR, Int.reduceToNat, Int.reduceAdd, Int.reduceSub, Int.reduceLT, Int.reduceLE, Nat.reduceSub, Nat.reduceMul, Nat.reduceEqDiff, joinBR, d1]
  clear d1
  rotate_left
  have d1 : decide (((i : Nat) : Int) ≤ ((j0 : Nat) : Int)) = true := decide_eq_true (by omega)
  have gi := hc2 i (by omega)
  simp (disch := first | assumption | omega | (simp only [szR] <;> omega) | rfl | decide) only [gen0, gen1, gen2, rulesZ, litR, bolR, Nat.reduceAdd, Nat.reduceLeDiff, numR, memR, valR, heapR, updR, intR, decR, extR, slR, segR, thenR, pnR, Int.reduceToNat, Int.reduceAdd, Int.reduceSub, Int.reduceLT, Int.reduceLE, Nat.reduceSub, Nat.reduceMul, Nat.reduceEqDiff, joinBR, d1, hb3, ga, gi]
  clear d1
  refine lessK (fun hlt => ?_) (fun hge => ?_)
  rotate_left
  rw [V_get (by omega), V_get (by omega)] at hge
  simp (disch := first | assumption | omega | (simp only [szR] <;> omega) | rfl | decide) only [gen0, gen1, gen2, rulesZ, litR, bolR, Nat.reduceAdd, Nat.reduceLeDiff, numR, memR, valR, heapR, updR, intR, decR, extR, slR, segR, thenR, pnR, Int.reduceToNat, Int.reduceAdd, Int.reduceSub, Int.reduceLT, Int.reduceLE, Nat.reduceSub, Nat.reduceMul, Nat.reduceEqDiff, joinBR, Bool.not_false, ei]
  exact ⟨⟨i + 1, by omega, by omega, rfl, h3.drew, hb3, fun k k1 k2 => by
    by_cases e : k = i
    · rw [e]
      omega
    · exact hB3 k k1 (by omega), xE hx3 (dE _)⟩, by omega⟩
  rotate_left
  rw [V_get (by omega), V_get (by omega)] at hlt
  have hi0 : i ≤ j0 → P < V zs i := fun h => by omega
  simp (disch := first | assumption | omega | (simp only [szR] <;> omega) | rfl | decide) only [gen0, gen1, gen2, rulesZ, litR, bolR, Nat.reduceAdd, Nat.reduceLeDiff, numR, memR, valR, heapR, updR, intR, decR, extR, slR, segR, thenR, pnR, Int.reduceToNat, Int.reduceAdd, Int.reduceSub, Int.reduceLT, Int.reduceLE, Nat.reduceSub, Nat.reduceMul, Nat.reduceEqDiff, joinBR, Bool.not_true]
  all_goals
    refine loopT.intro (fun st w' => ∃ (j : Nat), a ≤ j ∧ j < b ∧ j ≤ j0 ∧ st = [.int .i64 (j : Nat)] ∧ SU w' g n zs ∧ w'.heap[g]? = some (.cells cur2.toArray 28 (0, 0)) ∧ (∀ k, j < k → k < b → P < V zs k) ∧ Ext [g] w w')
      (fun st _ => match st with
        | [.int _ y] => y.toNat
        | _ => 0) ⟨j0, hj0, hj0', Nat.le_refl _, rfl, h3.drew, hb3, hC2, xE hx3 (dE _)⟩ ?_
    rintro st w4 ⟨j, hja, hjb, hjj, rfl, h4, hb4, hC4, hx4⟩ _
    rw [drewK_eq]
    have ej : i ≤ j → ((j : Nat) : Int) - 1 = ((j - 1 : Nat) : Int) := fun _ => by omega
    by_cases hij : i ≤ j
    · first
      | exfalso; omega
      | have d1 : decide (((i : Nat) : Int) ≤ ((j : Nat) : Int)) = true := decide_eq_true (by omega)
        have d2 : decide (((j : Nat) : Int) < ((i : Nat) : Int)) = false := decide_eq_false (by omega)
        have gj := hc2 j (by omega)
        have gi := hc2 i (by omega)
        have ej := ej hij
        have hPi := hi0 (by omega)
        simp (disch := first | assumption | omega | (simp only [szR] <;> omega) | rfl | decide) only [gen0, gen1, gen2, rulesZ, litR, bolR, Nat.reduceAdd, Nat.reduceLeDiff, numR, memR, valR, heapR, updR, intR, decR, extR, slR, segR, thenR, pnR, Int.reduceToNat, Int.reduceAdd, Int.reduceSub, Int.reduceLT, Int.reduceLE, Nat.reduceSub, Nat.reduceMul, Nat.reduceEqDiff, joinBR, d1, hb4, ga, gj]
        refine lessK (fun hlt2 => ?_) (fun hge2 => ?_)
        · rw [V_get (by omega), V_get (by omega)] at hlt2
          simp (disch := first | assumption | omega | (simp only [szR] <;> omega) | rfl | decide) only [gen0, gen1, gen2, rulesZ, litR, bolR, Nat.reduceAdd, Nat.reduceLeDiff, numR, memR, valR, heapR, updR, intR, decR, extR, slR, segR, thenR, pnR, Int.reduceToNat, Int.reduceAdd, Int.reduceSub, Int.reduceLT, Int.reduceLE, Nat.reduceSub, Nat.reduceMul, Nat.reduceEqDiff, joinBR, ej]
          exact ⟨⟨j - 1, by omega, by omega, by omega, rfl, h4.drew, hb4, fun k k1 k2 => by
            by_cases e : k = j
            · rw [e]
              omega
            · exact hC4 k (by omega) k2, xE hx4 (dE _)⟩, by omega⟩
        · rw [V_get (by omega), V_get (by omega)] at hge2
          simp (disch := first | assumption | omega | (simp only [szR] <;> omega) | rfl | decide) only [gen0, gen1, gen2, rulesZ, litR, bolR, Nat.reduceAdd, Nat.reduceLeDiff, numR, memR, valR, heapR, updR, intR, decR, extR, slR, segR, thenR, pnR, Int.reduceToNat, Int.reduceAdd, Int.reduceSub, Int.reduceLT, Int.reduceLE, Nat.reduceSub, Nat.reduceMul, Nat.reduceEqDiff, joinBR, d2]
          refine joinL.intro fun J10 hJ10 => ?_
          rw [drewK_eq]
          simp (disch := first | assumption | omega | (simp only [szR] <;> omega) | rfl | decide) only [gen0, gen1, gen2, rulesZ, litR, bolR, Nat.reduceAdd, Nat.reduceLeDiff, numR, memR, valR, heapR, updR, intR, decR, extR, slR, segR, thenR, pnR, Int.reduceToNat, Int.reduceAdd, Int.reduceSub, Int.reduceLT, Int.reduceLE, Nat.reduceSub, Nat.reduceMul, Nat.reduceEqDiff, hb4, gi, gj, and_self]
          obtain ⟨ws, h5, hp5, hx5⟩ := SU.swap h4.drew.drew hb4 hl2 hc2 (i := i) (j := j) (by omega) (by omega)
          obtain ⟨k1, k2, k3⟩ := pe_step hp5 (a := a) (b := b) (P := P) (by omega) hij hA2 hB3 hC4 hPi (by omega)
          apply hJ10
          intro _
          simp (disch := first | assumption | omega | (simp only [szR] <;> omega) | rfl | decide) only [gen0, gen1, gen2, rulesZ, litR, bolR, Nat.reduceAdd, Nat.reduceLeDiff, numR, memR, valR, heapR, updR, intR, decR, extR, slR, segR, thenR, pnR, Int.reduceToNat, Int.reduceAdd, Int.reduceSub, Int.reduceLT, Int.reduceLE, Nat.reduceSub, Nat.reduceMul, Nat.reduceEqDiff, ei, ej]
          exact ⟨⟨i + 1, j - 1, ws, by omega, by omega, by omega, by omega, rfl, h5, hp2.trans (hp5.sw (by omega) (by omega)), k1, k2, k3, xG (xE (xE hx4 (dE _)) (dE _)) hx5⟩, by omega⟩
    · have d1 : decide (((i : Nat) : Int) ≤ ((j : Nat) : Int)) = false := decide_eq_false (by omega)
      have d2 : decide (((j : Nat) : Int) < ((i : Nat) : Int)) = true := decide_eq_true (by omega)
      simp (disch := first | assumption | omega | (simp only [szR] <;> omega) | rfl | decide) only [gen0, gen1, gen2, rulesZ, litR, bolR, Nat.reduceAdd, Nat.reduceLeDiff, numR, memR, valR, heapR, updR, intR, decR, extR, slR, segR, thenR, pnR, Int.reduceToNat, Int.reduceAdd, Int.reduceSub, Int.reduceLT, Int.reduceLE, Nat.reduceSub, Nat.reduceMul, Nat.reduceEqDiff, joinBR, d1, d2]
      exact hK i zs _ (by omega) (by omega) h4.drew hp2 hB3 (fun k k1 k2 => hC4 k (by omega) k2) (xE hx4 (dE _))
theorem part_loop {w w5 : World} {g n c a b i1 j1 : Nat} {xs ws : List Nat} (hab : a < b) (hbn : b ≤ n) (hn : n < 1000000) (hi1 : a + 1 ≤ i1) (hi2 : i1 ≤ b) (hj1 : a ≤ j1) (hj2 : j1 < b) (h5 : SU w5 g n ws) (hp5 : Sw a b xs ws) {P : Nat} (hA5 : V ws a = P) (hB5 : ∀ k, a < k → k < i1 → V ws k < P) (hC5 : ∀ k, j1 < k → k < b → P ≤ V ws k) (hx5 : Ext [g] w w5) {K : Value → World → Prop}
    (hK : ∀ (j : Nat) (z : Bool) ys w', a ≤ j → j < b → SU w' g n ys → Sw a b xs ys → Part ys a b j P → Ext [g] w w' → K (.tuple #[.int .i64 (j : Nat), .bool z]) w') {t0 t1 : Value} (e0 : t0 = .slice (some ⟨g, 0, none⟩) n c) (e1 : t1 = .int .i64 (a : Nat)) :
    loopT (fun R12 s12 w => ∀ _ : Nat → Value,
  loopT (fun R14 s14 w => ∀ _ : Nat → Value,
  drewK (fun w =>
  sV Try.prog (binV .leq 3 (.tmp 99) (.tmp 100) (s14.getD 0 undef) (s12.getD 1 undef)) w fun v101 =>
  gdS (yb v101) true (fun k => k t0) fun v103 =>
  gdS (yb v101) true (fun k => k (s14.getD 0 undef)) fun v104 =>
  gdS (yb v101) true (fun k => sV Try.prog (Instr.indexAt 93 v103 v104) w k) fun v105 =>
  gdS (yb v101) true (fun k => sV Try.prog (Instr.loadAt 28 v105) w k) fun v106 =>
  gdS (yb v101) true (fun k => k t0) fun v107 =>
  gdS (yb v101) true (fun k => k t1) fun v108 =>
  gdS (yb v101) true (fun k => sV Try.prog (Instr.indexAt 93 v107 v108) w k) fun v109 =>
  gdS (yb v101) true (fun k => sV Try.prog (Instr.loadAt 28 v109) w k) fun v110 =>
  joinK (fun J16 : Value → World → Prop => gdK (yb v101) true (fun k => kN Try.prog (callN (.func (.func 103) #[] #[]) #[v106, v110]) w k) w fun v111 w =>
  kN Try.prog (pickN v101 v111 (.bool false)) w fun v112_1 w =>
  J16 v112_1 w) fun v112 w =>
  condK v112
  (kV Try.prog (binV .add 3 (.tmp 113) (.const (.int .i64 1)) (s14.getD 0 undef) (.int .i64 1)) w fun v114 w =>
  R14 [v114, (s12.getD 1 undef)] w)
  (loopT (fun R17 s17 w => ∀ _ : Nat → Value,
  drewK (fun w =>
  sV Try.prog (binV .leq 3 (.tmp 115) (.tmp 116) (s14.getD 0 undef) (s17.getD 0 undef)) w fun v117 =>
  gdS (yb v117) true (fun k => k t0) fun v119 =>
  gdS (yb v117) true (fun k => k (s17.getD 0 undef)) fun v120 =>
  gdS (yb v117) true (fun k => sV Try.prog (Instr.indexAt 93 v119 v120) w k) fun v121 =>
  gdS (yb v117) true (fun k => sV Try.prog (Instr.loadAt 28 v121) w k) fun v122 =>
  gdS (yb v117) true (fun k => k t0) fun v123 =>
  gdS (yb v117) true (fun k => k t1) fun v124 =>
  gdS (yb v117) true (fun k => sV Try.prog (Instr.indexAt 93 v123 v124) w k) fun v125 =>
  gdS (yb v117) true (fun k => sV Try.prog (Instr.loadAt 28 v125) w k) fun v126 =>
  joinK (fun J19 : Value → World → Prop => gdK (yb v117) true (fun k => kN Try.prog (callN (.func (.func 103) #[] #[]) #[v122, v126]) w k) w fun v127 w =>
  gdK (yb v117) true (fun k => kV Try.prog (Op.unary .not v127) w k) w fun v128 w =>
  kN Try.prog (pickN v117 v128 (.bool false)) w fun v129_1 w =>
  J19 v129_1 w) fun v129 w =>
  condK v129
  (kV Try.prog (binV .sub 3 (.tmp 130) (.const (.int .i64 1)) (s17.getD 0 undef) (.int .i64 1)) w fun v131 w =>
  R17 [v131] w)
  (kV Try.prog (binV .gtr 3 (.tmp 132) (.tmp 133) (s14.getD 0 undef) (s17.getD 0 undef)) w fun v134 w =>
  condK v134
  (joinL (fun J20 =>
  drewK (fun w =>
  pV Try.prog (Instr.indexAt 93 t0 t1) fun v159 =>
  pV Try.prog (Instr.indexAt 93 t0 (s17.getD 0 undef)) fun v163 =>
  (kV Try.prog (Instr.loadAt 28 v159) w fun v160 w =>
  kV Try.prog (Instr.loadAt 28 v163) w fun v164 w =>
  pV Try.prog (Instr.indexAt 93 t0 (s17.getD 0 undef)) fun v165 =>
  kU Try.prog (Instr.storeAt 28 v165 v160) w fun _ w =>
  pV Try.prog (Instr.indexAt 93 t0 t1) fun v166 =>
  kU Try.prog (Instr.storeAt 28 v166 v164) w fun _ w =>
  J20 [] w) ∧
  (kV Try.prog (Instr.loadAt 28 v163) w fun v164_1 w =>
  kV Try.prog (Instr.loadAt 28 v159) w fun v160_1 w =>
  pV Try.prog (Instr.indexAt 93 t0 (s17.getD 0 undef)) fun v165_1 =>
  kU Try.prog (Instr.storeAt 28 v165_1 v160_1) w fun _ w =>
  pV Try.prog (Instr.indexAt 93 t0 t1) fun v166_1 =>
  kU Try.prog (Instr.storeAt 28 v166_1 v164_1) w fun _ w =>
  J20 [] w)) w) fun s20 w => ∀ _ : Nat → Value,
  K (.tuple #[(s17.getD 0 undef), (.bool false)]) w)
  (joinL (fun J22 =>
  drewK (fun w =>
  pV Try.prog (Instr.indexAt 93 t0 (s17.getD 0 undef)) fun v141 =>
  pV Try.prog (Instr.indexAt 93 t0 (s14.getD 0 undef)) fun v145 =>
  (kV Try.prog (Instr.loadAt 28 v141) w fun v142 w =>
  kV Try.prog (Instr.loadAt 28 v145) w fun v146 w =>
  pV Try.prog (Instr.indexAt 93 t0 (s14.getD 0 undef)) fun v147 =>
  kU Try.prog (Instr.storeAt 28 v147 v142) w fun _ w =>
  pV Try.prog (Instr.indexAt 93 t0 (s17.getD 0 undef)) fun v148 =>
  kU Try.prog (Instr.storeAt 28 v148 v146) w fun _ w =>
  J22 [] w) ∧
  (kV Try.prog (Instr.loadAt 28 v145) w fun v146_1 w =>
  kV Try.prog (Instr.loadAt 28 v141) w fun v142_1 w =>
  pV Try.prog (Instr.indexAt 93 t0 (s14.getD 0 undef)) fun v147_1 =>
  kU Try.prog (Instr.storeAt 28 v147_1 v142_1) w fun _ w =>
  pV Try.prog (Instr.indexAt 93 t0 (s17.getD 0 undef)) fun v148_1 =>
  kU Try.prog (Instr.storeAt 28 v148_1 v146_1) w fun _ w =>
  J22 [] w)) w) fun s22 w => ∀ _ : Nat → Value,
  kV Try.prog (binV .add 3 (.tmp 149) (.const (.int .i64 1)) (s14.getD 0 undef) (.int .i64 1)) w fun v150 w =>
  kV Try.prog (binV .sub 3 (.tmp 151) (.const (.int .i64 1)) (s17.getD 0 undef) (.int .i64 1)) w fun v152 w =>
  R12 [v150, v152] w))) w) [(s12.getD 1 undef)] w)) w) [(s12.getD 0 undef), (s12.getD 1 undef)] w) [.int .i64 (i1 : Nat), .int .i64 (j1 : Nat)] w5 := by
  subst e0 e1
  refine loopT.intro (fun st w' => ∃ (i j : Nat) (zs : List Nat), a + 1 ≤ i ∧ i ≤ b ∧ a ≤ j ∧ j < b ∧ st = [.int .i64 (i : Nat), .int .i64 (j : Nat)] ∧ SU w' g n zs ∧ Sw a b xs zs ∧ V zs a = P ∧ (∀ k, a < k → k < i → V zs k < P) ∧ (∀ k, j < k → k < b → P ≤ V zs k) ∧ Ext [g] w w')
    (fun st _ => match st with
      | [.int _ y, _] => b - y.toNat
      | _ => 0) ⟨i1, j1, ws, hi1, hi2, hj1, hj2, rfl, h5, hp5, hA5, hB5, hC5, hx5⟩ ?_
  rintro st w2 ⟨i0, j0, zs, hi0, hi0', hj0, hj0', rfl, h2, hp2, hA2, hB2, hC2, hx2⟩ _
  obtain ⟨cur2, hb2, hl2, hc2⟩ := h2.at'
  have hlen2 := h2.len
  have ga := hc2 a (by omega)
  refine loopT.intro (fun st w' => ∃ (i : Nat), i0 ≤ i ∧ i ≤ b ∧ st = [.int .i64 (i : Nat), .int .i64 (j0 : Nat)] ∧ SU w' g n zs ∧ w'.heap[g]? = some (.cells cur2.toArray 28 (0, 0)) ∧ (∀ k, a < k → k < i → V zs k < P) ∧ Ext [g] w w')
    (fun st _ => match st with
      | [.int _ y, _] => b - y.toNat
      | _ => 0) ⟨i0, Nat.le_refl _, hi0', rfl, h2, hb2, hB2, hx2⟩ ?_
  rintro st w3 ⟨i, hi, hib, rfl, h3, hb3, hB3, hx3⟩ _
  have ei : ((i : Nat) : Int) + 1 = ((i + 1 : Nat) : Int) := by omega
  rw [drewK_eq]
  by_cases hij : i ≤ j0
  rotate_left
  have d1 : decide (((i : Nat) : Int) ≤ ((j0 : Nat) : Int)) = false := decide_eq_false (by omega)
  have hi0 : i ≤ j0 → P ≤ V zs i := fun h => absurd h hij
  simp (disch := first | assumption | omega | (simp only [szR] <;> omega) | rfl | decide) only [gen0, gen1, gen2, rulesZ, litR, bolR, Nat.reduceAdd, Nat.reduceLeDiff, numR, memR, valR, heapR, updR, intR, decR, extR, slR, segR, thenR, pnR, Int.reduceToNat, Int.reduceAdd, Int.reduceSub, Int.reduceLT, Int.reduceLE, Nat.reduceSub, Nat.reduceMul, Nat.reduceEqDiff, joinBR, d1]
  clear d1
  rotate_left
  have d1 : decide (((i : Nat) : Int) ≤ ((j0 : Nat) : Int)) = true := decide_eq_true (by omega)
  have gi := hc2 i (by omega)
  simp (disch := first | assumption | omega | (simp only [szR] <;> omega) | rfl | decide) only [gen0, gen1, gen2, rulesZ, litR, bolR, Nat.reduceAdd, Nat.reduceLeDiff, numR, memR, valR, heapR, updR, intR, decR, extR, slR, segR, thenR, pnR, Int.reduceToNat, Int.reduceAdd, Int.reduceSub, Int.reduceLT, Int.reduceLE, Nat.reduceSub, Nat.reduceMul, Nat.reduceEqDiff, joinBR, d1, hb3, ga, gi]
  clear d1
  refine lessK (fun hlt => ?_) (fun hge => ?_)
  rw [V_get (by omega), V_get (by omega)] at hlt
  simp (disch := first | assumption | omega | (simp only [szR] <;> omega) | rfl | decide) only [gen0, gen1, gen2, rulesZ, litR, bolR, Nat.reduceAdd, Nat.reduceLeDiff, numR, memR, valR, heapR, updR, intR, decR, extR, slR, segR, thenR, pnR, Int.reduceToNat, Int.reduceAdd, Int.reduceSub, Int.reduceLT, Int.reduceLE, Nat.reduceSub, Nat.reduceMul, Nat.reduceEqDiff, joinBR, ei]
  exact ⟨⟨i + 1, by omega, by omega, rfl, h3.drew, hb3, fun k k1 k2 => by
    by_cases e : k = i
    · rw [e]
      omega
    · exact hB3 k k1 (by omega), xE hx3 (dE _)⟩, by omega⟩
  rw [V_get (by omega), V_get (by omega)] at hge
  have hi0 : i ≤ j0 → P ≤ V zs i := fun h => by omega
  simp (disch := first | assumption | omega | (simp only [szR] <;> omega) | rfl | decide) only [gen0, gen1, gen2, rulesZ, litR, bolR, Nat.reduceAdd, Nat.reduceLeDiff, numR, memR, valR, heapR, updR, intR, decR, extR, slR, segR, thenR, pnR, Int.reduceToNat, Int.reduceAdd, Int.reduceSub, Int.reduceLT, Int.reduceLE, Nat.reduceSub, Nat.reduceMul, Nat.reduceEqDiff, joinBR]
  all_goals
    refine loopT.intro (fun st w' => ∃ (j : Nat), a ≤ j ∧ j < b ∧ j ≤ j0 ∧ st = [.int .i64 (j : Nat)] ∧ SU w' g n zs ∧ w'.heap[g]? = some (.cells cur2.toArray 28 (0, 0)) ∧ (∀ k, j < k → k < b → P ≤ V zs k) ∧ Ext [g] w w')
      (fun st _ => match st with
        | [.int _ y] => y.toNat
        | _ => 0) ⟨j0, hj0, hj0', Nat.le_refl _, rfl, h3.drew, hb3, hC2, xE hx3 (dE _)⟩ ?_
    rintro st w4 ⟨j, hja, hjb, hjj, rfl, h4, hb4, hC4, hx4⟩ _
    rw [drewK_eq]
    have gj := hc2 j (by omega)
    have ej : i ≤ j → ((j : Nat) : Int) - 1 = ((j - 1 : Nat) : Int) := fun _ => by omega
    by_cases hij : i ≤ j
    · first
      | exfalso; omega
      | have d1 : decide (((i : Nat) : Int) ≤ ((j : Nat) : Int)) = true := decide_eq_true (by omega)
        have d2 : decide (((j : Nat) : Int) < ((i : Nat) : Int)) = false := decide_eq_false (by omega)
        have gi := hc2 i (by omega)
        have ej := ej hij
        simp (disch := first | assumption | omega | (simp only [szR] <;> omega) | rfl | decide) only [gen0, gen1, gen2, rulesZ, litR, bolR, Nat.reduceAdd, Nat.reduceLeDiff, numR, memR, valR, heapR, updR, intR, decR, extR, slR, segR, thenR, pnR, Int.reduceToNat, Int.reduceAdd, Int.reduceSub, Int.reduceLT, Int.reduceLE, Nat.reduceSub, Nat.reduceMul, Nat.reduceEqDiff, joinBR, d1, hb4, ga, gj]
        have hPi := hi0 (by omega)
        refine lessK (fun hlt2 => ?_) (fun hge2 => ?_)
        · rw [V_get (by omega), V_get (by omega)] at hlt2
          simp (disch := first | assumption | omega | (simp only [szR] <;> omega) | rfl | decide) only [gen0, gen1, gen2, rulesZ, litR, bolR, Nat.reduceAdd, Nat.reduceLeDiff, numR, memR, valR, heapR, updR, intR, decR, extR, slR, segR, thenR, pnR, Int.reduceToNat, Int.reduceAdd, Int.reduceSub, Int.reduceLT, Int.reduceLE, Nat.reduceSub, Nat.reduceMul, Nat.reduceEqDiff, joinBR, Bool.not_true, d2]
          refine joinL.intro fun J22 hJ22 => ?_
          rw [drewK_eq]
          simp (disch := first | assumption | omega | (simp only [szR] <;> omega) | rfl | decide) only [gen0, gen1, gen2, rulesZ, litR, bolR, Nat.reduceAdd, Nat.reduceLeDiff, numR, memR, valR, heapR, updR, intR, decR, extR, slR, segR, thenR, pnR, Int.reduceToNat, Int.reduceAdd, Int.reduceSub, Int.reduceLT, Int.reduceLE, Nat.reduceSub, Nat.reduceMul, Nat.reduceEqDiff, hb4, gi, gj, and_self]
          obtain ⟨us, h6, hp6, hx6⟩ := SU.swap h4.drew.drew hb4 hl2 hc2 (i := i) (j := j) (by omega) (by omega)
          obtain ⟨k1, k2, k3⟩ := pt_step hp6 (a := a) (b := b) (P := P) (by omega) hij hA2 hB3 hC4 hPi (by omega)
          apply hJ22
          intro _
          simp (disch := first | assumption | omega | (simp only [szR] <;> omega) | rfl | decide) only [gen0, gen1, gen2, rulesZ, litR, bolR, Nat.reduceAdd, Nat.reduceLeDiff, numR, memR, valR, heapR, updR, intR, decR, extR, slR, segR, thenR, pnR, Int.reduceToNat, Int.reduceAdd, Int.reduceSub, Int.reduceLT, Int.reduceLE, Nat.reduceSub, Nat.reduceMul, Nat.reduceEqDiff, ei, ej]
          exact ⟨⟨i + 1, j - 1, us, by omega, by omega, by omega, by omega, rfl, h6, hp2.trans (hp6.sw (by omega) (by omega)), k1, k2, k3, xG (xE (xE hx4 (dE _)) (dE _)) hx6⟩, by omega⟩
        · rw [V_get (by omega), V_get (by omega)] at hge2
          simp (disch := first | assumption | omega | (simp only [szR] <;> omega) | rfl | decide) only [gen0, gen1, gen2, rulesZ, litR, bolR, Nat.reduceAdd, Nat.reduceLeDiff, numR, memR, valR, heapR, updR, intR, decR, extR, slR, segR, thenR, pnR, Int.reduceToNat, Int.reduceAdd, Int.reduceSub, Int.reduceLT, Int.reduceLE, Nat.reduceSub, Nat.reduceMul, Nat.reduceEqDiff, joinBR, Bool.not_false, ej]
          exact ⟨⟨j - 1, by omega, by omega, by omega, rfl, h4.drew, hb4, fun k k1 k2 => by
            by_cases e : k = j
            · rw [e]
              omega
            · exact hC4 k (by omega) k2, xE hx4 (dE _)⟩, by omega⟩
    · have d1 : decide (((i : Nat) : Int) ≤ ((j : Nat) : Int)) = false := decide_eq_false (by omega)
      have d2 : decide (((j : Nat) : Int) < ((i : Nat) : Int)) = true := decide_eq_true (by omega)
      simp (disch := first | assumption | omega | (simp only [szR] <;> omega) | rfl | decide) only [gen0, gen1, gen2, rulesZ, litR, bolR, Nat.reduceAdd, Nat.reduceLeDiff, numR, memR, valR, heapR, updR, intR, decR, extR, slR, segR, thenR, pnR, Int.reduceToNat, Int.reduceAdd, Int.reduceSub, Int.reduceLT, Int.reduceLE, Nat.reduceSub, Nat.reduceMul, Nat.reduceEqDiff, joinBR, d1, d2]
      refine joinL.intro fun J20 hJ20 => ?_
      rw [drewK_eq]
      simp (disch := first | assumption | omega | (simp only [szR] <;> omega) | rfl | decide) only [gen0, gen1, gen2, rulesZ, litR, bolR, Nat.reduceAdd, Nat.reduceLeDiff, numR, memR, valR, heapR, updR, intR, decR, extR, slR, segR, thenR, pnR, Int.reduceToNat, Int.reduceAdd, Int.reduceSub, Int.reduceLT, Int.reduceLE, Nat.reduceSub, Nat.reduceMul, Nat.reduceEqDiff, hb4, ga, gj, and_self]
      obtain ⟨us, h6, hp6, hx6⟩ := SU.swap h4.drew.drew hb4 hl2 hc2 (i := j) (j := a) (by omega) (by omega)
      apply hJ20
      intro _
      simp (disch := first | assumption | omega | (simp only [szR] <;> omega) | rfl | decide) only [gen0, gen1, gen2, rulesZ, litR, bolR, Nat.reduceAdd, Nat.reduceLeDiff, numR, memR, valR, heapR, updR, intR, decR, extR, slR, segR, thenR, pnR, Int.reduceToNat, Int.reduceAdd, Int.reduceSub, Int.reduceLT, Int.reduceLE, Nat.reduceSub, Nat.reduceMul, Nat.reduceEqDiff]
      exact hK j false us _ hja hjb h6 (hp2.trans (hp6.sw (by omega) (by omega))) (pt_last hp6 hja (by omega) hA2 hB3 hC4) (xG (xE (xE hx4 (dE _)) (dE _)) hx6)
theorem part_spec {w : World} {g n c a b p : Nat} {xs : List Nat} (h : SU w g n xs) (hab : a < b) (hbn : b ≤ n) (hpa : a ≤ p) (hpb : p < b) (hn : n < 1000000) {K : Value → World → Prop}
    (hK : ∀ (j : Nat) (z : Bool) ys w', a ≤ j → j < b → SU w' g n ys → Sw a b xs ys → Part ys a b j (V xs p) → Ext [g] w w' → K (.tuple #[.int .i64 (j : Nat), .bool z]) w') :
    callsK Try.prog 105 #[.slice (some ⟨g, 0, none⟩) n c, .int .i64 (a : Nat), .int .i64 (b : Nat), .int .i64 (p : Nat)] w K := by
  apply F105_ok
  unfold F105
  obtain ⟨cur, hb, hl, hc⟩ := h.at'
  have hlen := h.len
  have q1 := hc a (by omega)
  have q2 := hc p (by omega)
  refine joinL.intro fun J0 hJ0 => ?_
  rw [drewK_eq]
  simp (disch := first | assumption | omega | (simp only [szR] <;> omega) | rfl | decide) only [gen0, gen1, gen2, rulesZ, litR, bolR, Nat.reduceAdd, Nat.reduceLeDiff, numR, memR, valR, heapR, updR, intR, decR, extR, slR, segR, thenR, pnR, Int.reduceToNat, Int.reduceAdd, Int.reduceSub, Int.reduceLT, Int.reduceLE, Nat.reduceSub, Nat.reduceMul, Nat.reduceEqDiff, hb, q1, q2, and_self]
  obtain ⟨ys, h1, hp1, hx1⟩ := SU.swap h.drew hb hl hc (i := a) (j := p) (by omega) (by omega)
  have hva := exch_first hp1
  have hp1 := hp1.sw (a := a) (b := b) (by omega) (by omega)
  obtain ⟨P, hP⟩ : ∃ P, P = V xs p := ⟨_, rfl⟩
  rw [← hP] at hva hK
  apply hJ0
  intro _
  clear hJ0
  have hx1 := xG ((dE w).mono (by simp)) hx1
  generalize World.upd w.drew g ((cur.set a (.int .u64 (xs[p] : Nat))).set p (.int .u64 (xs[a] : Nat))) = w1 at h1 hx1 ⊢
  have e1 : ((a : Nat) : Int) + 1 = ((a + 1 : Nat) : Int) := by omega
  have e2 : ((b : Nat) : Int) - 1 = ((b - 1 : Nat) : Int) := by omega
  simp (disch := first | assumption | omega | (simp only [szR] <;> omega) | rfl | decide) only [gen0, gen1, gen2, rulesZ, litR, bolR, Nat.reduceAdd, Nat.reduceLeDiff, numR, memR, valR, heapR, updR, intR, decR, extR, slR, segR, thenR, pnR, Int.reduceToNat, Int.reduceAdd, Int.reduceSub, Int.reduceLT, Int.reduceLE, Nat.reduceSub, Nat.reduceMul, Nat.reduceEqDiff, e1, e2]
  obtain ⟨cur1, hb1, hl1, hc1⟩ := h1.at'
  have hlen1 := h1.len
  have ga1 := hc1 a (by omega)
  refine loopT.intro (fun st w' => ∃ (i : Nat), a + 1 ≤ i ∧ i ≤ b ∧ st = [.int .i64 (i : Nat)] ∧ SU w' g n ys ∧ w'.heap[g]? = some (.cells cur1.toArray 28 (0, 0)) ∧ (∀ k, a < k → k < i → V ys k < P) ∧ Ext [g] w w')
    (fun st _ => match st with
      | [.int _ y] => b - y.toNat
      | _ => 0) ⟨a + 1, by omega, by omega, rfl, h1, hb1, fun k k1 k2 => by omega, hx1⟩ ?_
  rintro st w3 ⟨i, hia, hib, rfl, h3, hb3, hB3, hx3⟩ _
  have ei : ((i : Nat) : Int) + 1 = ((i + 1 : Nat) : Int) := by omega
  rw [drewK_eq]
  by_cases hij : i ≤ b - 1
  rotate_left
  have d1 : decide (((i : Nat) : Int) ≤ ((b - 1 : Nat) : Int)) = false := decide_eq_false (by omega)
  have hi0 : i ≤ b - 1 → P ≤ V ys i := fun h => absurd h hij
  simp (disch := first | assumption | omega | (simp only [szR] <;> omega) | rfl | decide) only [gen0, gen1, gen2, rulesZ, litR, bolR, Nat.reduceAdd, Nat.reduceLeDiff, numR, memR, valR, heapR, updR, intR, decR, extR, slR, segR, thenR, pnR, Int.reduceToNat, Int.reduceAdd, Int.reduceSub, Int.reduceLT, Int.reduceLE, Nat.reduceSub, Nat.reduceMul, Nat.reduceEqDiff, joinBR, d1]
  clear d1
  rotate_left
  have d1 : decide (((i : Nat) : Int) ≤ ((b - 1 : Nat) : Int)) = true := decide_eq_true (by omega)
  have gi := hc1 i (by omega)
  simp (disch := first | assumption | omega | (simp only [szR] <;> omega) | rfl | decide) only [gen0, gen1, gen2, rulesZ, litR, bolR, Nat.reduceAdd, Nat.reduceLeDiff, numR, memR, valR, heapR, updR, intR, decR, extR, slR, segR, thenR, pnR, Int.reduceToNat, Int.reduceAdd, Int.reduceSub, Int.reduceLT, Int.reduceLE, Nat.reduceSub, Nat.reduceMul, Nat.reduceEqDiff, joinBR, d1, hb3, ga1, gi]
  clear d1
  refine lessK (fun hlt => ?_) (fun hge => ?_)
  rw [V_get (by omega), V_get (by omega)] at hlt
  simp (disch := first | assumption | omega | (simp only [szR] <;> omega) | rfl | decide) only [gen0, gen1, gen2, rulesZ, litR, bolR, Nat.reduceAdd, Nat.reduceLeDiff, numR, memR, valR, heapR, updR, intR, decR, extR, slR, segR, thenR, pnR, Int.reduceToNat, Int.reduceAdd, Int.reduceSub, Int.reduceLT, Int.reduceLE, Nat.reduceSub, Nat.reduceMul, Nat.reduceEqDiff, joinBR, ei]
  exact ⟨⟨i + 1, by omega, by omega, rfl, h3.drew, hb3, fun k k1 k2 => by
    by_cases e : k = i
    · rw [e]
      omega
    · exact hB3 k k1 (by omega), xE hx3 (dE _)⟩, by omega⟩
  rw [V_get (by omega), V_get (by omega)] at hge
  have hi0 : i ≤ b - 1 → P ≤ V ys i := fun h => by omega
  simp (disch := first | assumption | omega | (simp only [szR] <;> omega) | rfl | decide) only [gen0, gen1, gen2, rulesZ, litR, bolR, Nat.reduceAdd, Nat.reduceLeDiff, numR, memR, valR, heapR, updR, intR, decR, extR, slR, segR, thenR, pnR, Int.reduceToNat, Int.reduceAdd, Int.reduceSub, Int.reduceLT, Int.reduceLE, Nat.reduceSub, Nat.reduceMul, Nat.reduceEqDiff, joinBR]
  all_goals
    refine loopT.intro (fun st w' => ∃ (j : Nat), a ≤ j ∧ j < b ∧ st = [.int .i64 (j : Nat)] ∧ SU w' g n ys ∧ w'.heap[g]? = some (.cells cur1.toArray 28 (0, 0)) ∧ (∀ k, j < k → k < b → P ≤ V ys k) ∧ Ext [g] w w')
      (fun st _ => match st with
        | [.int _ y] => y.toNat
        | _ => 0) ⟨b - 1, by omega, by omega, rfl, h3.drew, hb3, fun k k1 k2 => by omega, xE hx3 (dE _)⟩ ?_
    rintro st w4 ⟨j, hja, hjb, rfl, h4, hb4, hC4, hx4⟩ _
    rw [drewK_eq]
    have gj := hc1 j (by omega)
    by_cases hij2 : i ≤ j
    · first
      | exfalso; omega
      | have d1 : decide (((i : Nat) : Int) ≤ ((j : Nat) : Int)) = true := decide_eq_true (by omega)
        have d2 : decide (((j : Nat) : Int) < ((i : Nat) : Int)) = false := decide_eq_false (by omega)
        have gi := hc1 i (by omega)
        have ej : ((j : Nat) : Int) - 1 = ((j - 1 : Nat) : Int) := by omega
        simp (disch := first | assumption | omega | (simp only [szR] <;> omega) | rfl | decide) only [gen0, gen1, gen2, rulesZ, litR, bolR, Nat.reduceAdd, Nat.reduceLeDiff, numR, memR, valR, heapR, updR, intR, decR, extR, slR, segR, thenR, pnR, Int.reduceToNat, Int.reduceAdd, Int.reduceSub, Int.reduceLT, Int.reduceLE, Nat.reduceSub, Nat.reduceMul, Nat.reduceEqDiff, joinBR, d1, hb4, ga1, gj]
        have hPi := hi0 (by omega)
        refine lessK (fun hlt2 => ?_) (fun hge2 => ?_)
        · rw [V_get (by omega), V_get (by omega)] at hlt2
          simp (disch := first | assumption | omega | (simp only [szR] <;> omega) | rfl | decide) only [gen0, gen1, gen2, rulesZ, litR, bolR, Nat.reduceAdd, Nat.reduceLeDiff, numR, memR, valR, heapR, updR, intR, decR, extR, slR, segR, thenR, pnR, Int.reduceToNat, Int.reduceAdd, Int.reduceSub, Int.reduceLT, Int.reduceLE, Nat.reduceSub, Nat.reduceMul, Nat.reduceEqDiff, joinBR, Bool.not_true, d2]
          refine joinL.intro fun J10 hJ10 => ?_
          rw [drewK_eq]
          simp (disch := first | assumption | omega | (simp only [szR] <;> omega) | rfl | decide) only [gen0, gen1, gen2, rulesZ, litR, bolR, Nat.reduceAdd, Nat.reduceLeDiff, numR, memR, valR, heapR, updR, intR, decR, extR, slR, segR, thenR, pnR, Int.reduceToNat, Int.reduceAdd, Int.reduceSub, Int.reduceLT, Int.reduceLE, Nat.reduceSub, Nat.reduceMul, Nat.reduceEqDiff, hb4, gi, gj, and_self]
          obtain ⟨ws, h5, hp5, hx5⟩ := SU.swap h4.drew.drew hb4 hl1 hc1 (i := i) (j := j) (by omega) (by omega)
          apply hJ10
          intro _
          clear hJ10
          have hx5 := xG (xE (xE hx4 (dE _)) (dE _)) hx5
          obtain ⟨k1, k2, k3⟩ := pt_step hp5 (a := a) (b := b) (P := P) (by omega) (by omega) hva hB3 hC4 hPi (by omega)
          have hp5 := hp1.trans (hp5.sw (by omega) (by omega))
          generalize World.upd w4.drew.drew g ((cur1.set i (.int .u64 (ys[j] : Nat))).set j (.int .u64 (ys[i] : Nat))) = w5 at h5 hx5 ⊢
          simp (disch := first | assumption | omega | (simp only [szR] <;> omega) | rfl | decide) only [gen0, gen1, gen2, rulesZ, litR, bolR, Nat.reduceAdd, Nat.reduceLeDiff, numR, memR, valR, heapR, updR, intR, decR, extR, slR, segR, thenR, pnR, Int.reduceToNat, Int.reduceAdd, Int.reduceSub, Int.reduceLT, Int.reduceLE, Nat.reduceSub, Nat.reduceMul, Nat.reduceEqDiff, ei, ej]
          exact part_loop hab hbn hn (by omega) (by omega) (by omega) (by omega) h5 hp5 k1 k2 k3 hx5 hK rfl rfl
        · rw [V_get (by omega), V_get (by omega)] at hge2
          simp (disch := first | assumption | omega | (simp only [szR] <;> omega) | rfl | decide) only [gen0, gen1, gen2, rulesZ, litR, bolR, Nat.reduceAdd, Nat.reduceLeDiff, numR, memR, valR, heapR, updR, intR, decR, extR, slR, segR, thenR, pnR, Int.reduceToNat, Int.reduceAdd, Int.reduceSub, Int.reduceLT, Int.reduceLE, Nat.reduceSub, Nat.reduceMul, Nat.reduceEqDiff, joinBR, Bool.not_false, ej]
          exact ⟨⟨j - 1, by omega, by omega, rfl, h4.drew, hb4, fun k k1 k2 => by
            by_cases e : k = j
            · rw [e]
              omega
            · exact hC4 k (by omega) k2, xE hx4 (dE _)⟩, by omega⟩
    · have d1 : decide (((i : Nat) : Int) ≤ ((j : Nat) : Int)) = false := decide_eq_false (by omega)
      have d2 : decide (((j : Nat) : Int) < ((i : Nat) : Int)) = true := decide_eq_true (by omega)
      simp (disch := first | assumption | omega | (simp only [szR] <;> omega) | rfl | decide) only [gen0, gen1, gen2, rulesZ, litR, bolR, Nat.reduceAdd, Nat.reduceLeDiff, numR, memR, valR, heapR, updR, intR, decR, extR, slR, segR, thenR, pnR, Int.reduceToNat, Int.reduceAdd, Int.reduceSub, Int.reduceLT, Int.reduceLE, Nat.reduceSub, Nat.reduceMul, Nat.reduceEqDiff, joinBR, d1, d2]
      refine joinL.intro fun J8 hJ8 => ?_
      rw [drewK_eq]
      simp (disch := first | assumption | omega | (simp only [szR] <;> omega) | rfl | decide) only [gen0, gen1, gen2, rulesZ, litR, bolR, Nat.reduceAdd, Nat.reduceLeDiff, numR, memR, valR, heapR, updR, intR, decR, extR, slR, segR, thenR, pnR, Int.reduceToNat, Int.reduceAdd, Int.reduceSub, Int.reduceLT, Int.reduceLE, Nat.reduceSub, Nat.reduceMul, Nat.reduceEqDiff, hb4, ga1, gj, and_self]
      obtain ⟨ws, h5, hp5, hx5⟩ := SU.swap h4.drew.drew hb4 hl1 hc1 (i := j) (j := a) (by omega) (by omega)
      apply hJ8
      intro _
      simp (disch := first | assumption | omega | (simp only [szR] <;> omega) | rfl | decide) only [gen0, gen1, gen2, rulesZ, litR, bolR, Nat.reduceAdd, Nat.reduceLeDiff, numR, memR, valR, heapR, updR, intR, decR, extR, slR, segR, thenR, pnR, Int.reduceToNat, Int.reduceAdd, Int.reduceSub, Int.reduceLT, Int.reduceLE, Nat.reduceSub, Nat.reduceMul, Nat.reduceEqDiff]
      exact hK j true ws _ hja hjb h5 (hp1.trans (hp5.sw (by omega) (by omega))) (pt_last hp5 hja (by omega) hva hB3 hC4) (xG (xE (xE hx4 (dE _)) (dE _)) hx5)
end Go.Proofs.Ytgnibcaflidjmaa
