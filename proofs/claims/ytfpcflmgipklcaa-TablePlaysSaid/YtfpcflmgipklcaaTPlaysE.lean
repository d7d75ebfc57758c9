/- TablePlays' end; conditions: those of each theorem. -/
import Derived.Test.YtfpcflmgipklcaaTPlays3
namespace Go.Proofs.Ytfpcflmgipklcaa
open Go.Fx
set_option maxRecDepth 100000
set_option linter.unusedSimpArgs false
set_option linter.unusedVariables false
set_option maxHeartbeats 4000000
theorem bad_wd {f : Nat → Bool} {x n : Nat} (h1 : leaf f = true) (h2 : right f x = true) : bad (wd f x) 0 n = decide (n ≤ x) := by
  have hf : ∀ j, j < 12 → fl (wd f x) j = f j := fun j hj => fl_wd f x j hj
  have he := (ent_back h1 h2).1
  have hx : fr (wd f x) = x := by
    have := congrArg (fun l : List Value => l[12]?) he
    simp [entC] at this
    omega
  have hl : leaf (fl (wd f x)) = true := (ent_back h1 h2).2.1
  have hr : right (fl (wd f x)) x = true := by
    rw [← h2]
    unfold right leaf
    rw [hf 0 (by omega), hf 1 (by omega), hf 2 (by omega), hf 3 (by omega), hf 4 (by omega), hf 6 (by omega), hf 7 (by omega), hf 8 (by omega), hf 9 (by omega), hf 10 (by omega), hf 11 (by omega)]
  have h0 : f 0 = true := by
    unfold leaf at h1
    rw [Bool.and_eq_true] at h1
    exact h1.1
  unfold bad
  rw [hx, hr, hl, hf 0 (by omega), h0]
  simp
theorem walk_got {m : Nat → Int} {fs : List Nat} {lv : Nat → Nat} {par : Nat → Nat × Nat} (hT : Tree m 12 fs lv par) (hr : fs.headD 0 = 0) {R : RT} (hC : Cor m fs R) (va : Nat) :
    (∃ X a, walkA (fun a => leN m a 8) 12 0 va = some (X, a) ∧ (gotF R va).2.2 = true ∧ (gotF R va).2.1 < 12 ∧ entC (fl X) (fr X) = entC (gotF R va).1 (gotF R va).2.1) ∨ (walkA (fun a => leN m a 8) 12 0 va = none ∧ ((gotF R va).2.2 = true → 12 ≤ (gotF R va).2.1)) := by
  unfold gotF
  by_cases hlt : va < 274877906944
  · rw [if_pos hlt]
    have hs := hC.at hlt
    cases he : findP R.ps (va / 4096) with
    | some e =>
      rw [he] at hs
      obtain ⟨h1, h2, h3⟩ := hs
      rcases walk_tab (n := 12) hT (by omega) hr hlt with ⟨a, h4, h5⟩ | ⟨h4, h5⟩
      · rw [h1] at h4 h5
        rw [bad_wd h2 h3, decide_eq_false_iff_not] at h5
        exact .inl ⟨_, a, h4, rfl, by show e.n < 12; omega, (ent_back h2 h3).1⟩
      · rw [h1, bad_wd h2 h3, decide_eq_true_eq] at h5
        exact .inr ⟨h4, fun _ => h5⟩
    | none =>
      rw [he] at hs
      have hs : lookW m 0 va = 0 := hs
      rcases walk_tab (n := 12) hT (by omega) hr hlt with ⟨a, h4, h5⟩ | ⟨h4, h5⟩
      · rw [hs] at h5
        unfold bad at h5
        rw [fl_zero] at h5
        simp at h5
      · exact .inr ⟨h4, fun h => by cases h⟩
  · rw [if_neg hlt]
    unfold walkA
    rw [if_neg hlt]
    exact .inr ⟨rfl, fun h => by cases h⟩
theorem entC_frame (f : Nat → Bool) (n : Nat) : (entC f n)[12]? = some (.int .u64 (n : Nat)) := rfl
theorem fd_drop0 (f : Nat → Bool) (n a : Nat) : fdC f n a ++ List.drop (fdC f n a).length [.bool false, .bool false, .bool false, .bool false, .bool false, .bool false, .bool false, .bool false, .bool false, .bool false, .bool false, .bool false, .int .u64 0, .int .u64 0] = fdC f n a := by rw [fdC_len]; simp [fdC]
theorem plays_end {w0 w : World} {tb r q p bx : Nat} {m g : Nat → Int} {t : Nat} {fs : List Nat} {lv : Nat → Nat} {par : Nat → Nat × Nat} {oth : List Nat} {R : RT} {vo u0 u1 u2 u3 : Value} {i va : Nat} (h : Pl w0 w tb r q p bx m g t fs lv par oth R vo u0 u1 u2 u3 i) (hi : i ≤ 50) (hva : va < 18446744073709551616)
    {v11 v31 v41 t1 : Value} (e11 : v11 = .pointer (some ⟨bx, 0, none⟩)) (e31 : v31 = .pointer (some ⟨r, 0, none⟩)) (e41 : v41 = .pointer (some ⟨tb, 0, none⟩)) (e1 : t1 = .int .u64 (va : Nat)) {K : Value → World → Prop} (hK : ∀ w', Ext [] w0 w' → K (.bool true) w') :
    (kN Try.prog (callN (.func (.func 21) #[] #[]) #[v41]) w fun v186 w =>
  kN Try.prog (callN (.func (.func 20) #[] #[]) #[v31, v186, t1]) w fun v188 w =>
  kV Try.prog (Instr.extract v188 0) w fun v189 w =>
  kV Try.prog (Instr.extract v188 1) w fun v190 w =>
  kV Try.prog (Instr.alloc 59 true (.tuple #[])) w fun v25 w =>
  kU Try.prog (Instr.storeAt 59 v25 v189) w fun _ w =>
  kV Try.prog (Instr.loadAt 37 v11) w fun v192 w =>
  kN Try.prog (callN (.func (.func 16) #[] #[]) #[v192, t1]) w fun v194 w =>
  kV Try.prog (Instr.extract v194 0) w fun v195 w =>
  kV Try.prog (Instr.extract v194 1) w fun v196 w =>
  kV Try.prog (Instr.alloc 46 true (.tuple #[])) w fun v27 w =>
  kU Try.prog (Instr.storeAt 46 v27 v195) w fun _ w =>
  kV Try.prog (binV .eql 3 (.tmp 197) (.const (.int .i64 0)) v190 (.int .i64 0)) w fun v198 w =>
  joinK (fun J14 : Value → World → Prop => gdK (yb v196) true (fun k => kV Try.prog (Instr.fieldAt 46 v27 12) w k) w fun v201 w =>
  gdK (yb v196) true (fun k => kV Try.prog (Instr.loadAt 23 v201) w k) w fun v202 w =>
  gdK (yb v196) true (fun k => kV Try.prog (binV .lss 23 (.tmp 202) (.const (.int .u64 12)) v202 (.int .u64 12)) w k) w fun v203 w =>
  kN Try.prog (pickN v196 v203 (.bool false)) w fun v204_1 w =>
  J14 v204_1 w) fun v204 w =>
  kV Try.prog (binV .neq 4 (.tmp 198) (.tmp 204) v198 v204) w fun v205 w =>
  joinK (fun J15 : Value → World → Prop => gdK (yb v205) false (fun k => k v190 w) w fun v207 w =>
  gdK (yb v205) false (fun k => kV Try.prog (binV .eql 3 (.tmp 207) (.const (.int .i64 0)) v207 (.int .i64 0)) w k) w fun v208 w =>
  gdK (yb v205) false (fun k => k v208 w) w fun v209 w =>
  gdK (yb v209) true (fun k => kV Try.prog (Instr.fieldAt 59 v25 0) w k) w fun v210 w =>
  gdK (yb v209) true (fun k => kV Try.prog (Instr.loadAt 40 v210) w k) w fun v211 w =>
  gdK (yb v209) true (fun k => kV Try.prog (Instr.loadAt 46 v27) w k) w fun v212 w =>
  gdK (yb v209) true (fun k => kV Try.prog (binV .neq 46 (.tmp 211) (.tmp 212) v211 v212) w k) w fun v213 w =>
  gdK (yb v205) false (fun k => kN Try.prog (pickN v209 v213 (.bool false)) w k) w fun v214 w =>
  kN Try.prog (pickN v205 (.bool true) v214) w fun v215_1 w =>
  J15 v215_1 w) fun v215 w =>
  condK v215
  (K (.bool false) w)
  (kN Try.prog (callN (.func (.func 22) #[] #[]) #[]) w fun v216 w =>
  K v216 w)) := by
  subst e11 e31 e41 e1
  obtain ⟨hfs, hfo⟩ := h.fs0
  have hlen := h.len
  simp (disch := first | assumption | omega | (simp only [szR, tgC_len, tgC_all, entC_len, entC_all, tvC_len, tvC_all, actC_len, actC_all, plC_len, plC_all, tbC_len, tbC_all, fdC_len, fdC_all] <;> omega) | rfl | decide) only [gen0, gen1, gen2, rulesM, rulesT, rulesQ, litR, bolR, Nat.reduceAdd, Nat.reduceLeDiff, numR, memR, valR, heapR, updR, intR, decR, extR, slR, segR, thenR, pnR, Int.reduceToNat, Int.reduceAdd, Int.reduceSub, Int.reduceLT, Int.reduceLE, Nat.reduceSub, Nat.reduceMul, Nat.reduceEqDiff]
  refine Root_tab h.tab hfs (by rw [h.hd]; decide) ?_
  rw [h.hd]
  simp (disch := first | assumption | omega | (simp only [szR, tgC_len, tgC_all, entC_len, entC_all, tvC_len, tvC_all, actC_len, actC_all, plC_len, plC_all, tbC_len, tbC_all, fdC_len, fdC_all] <;> omega) | rfl | decide) only [gen0, gen1, gen2, rulesM, rulesT, rulesQ, litR, bolR, Nat.reduceAdd, Nat.reduceLeDiff, numR, memR, valR, heapR, updR, intR, decR, extR, slR, segR, thenR, pnR, Int.reduceToNat, Int.reduceAdd, Int.reduceSub, Int.reduceLT, Int.reduceLE, Nat.reduceSub, Nat.reduceMul, Nat.reduceEqDiff]
  refine walk_spec (root := 0) (va := va) h.tab.mem (by omega) (by omega) hva fun w5 hx5 => ?_
  have hw := walk_got h.tree h.hd h.cor va
  obtain ⟨y, hy⟩ : ∃ y, y = gotF R va := ⟨_, rfl⟩
  have hg : ∀ {w' : World} {K' : Value → World → Prop}, Ext [] w w' → (∀ w2, Ext [] w' w2 → K' (gotV y) w2) → callsK Try.prog 16 #[.agg (tvC u0 u1 u2 u3).toArray, .int .u64 (va : Nat)] w' K' := fun hx hk => rgot_spec (h.ref.ext hx (by simp)) (by omega) hva (by rw [← hy]; exact hk)
  rw [← hy] at hw
  obtain ⟨f, x, ok⟩ := y
  unfold gotV at hg
  simp only at hw hg
  have h5 := h.step hx5
  have hb5 := h5.box
  have lb5 := lt_of_at hb5
  rcases hw with ⟨X, a, h1, h2, h3, h4⟩ | ⟨h1, h2⟩
  · rw [h1]
    unfold wkR
    subst h2
    have hx6 : Ext [] w5 (w5.alloc (.cells (fdC (fl X) (fr X) a).toArray 59)) := Ext.alloc Ext.refl _ _
    have hF6 : (w5.alloc (.cells (fdC (fl X) (fr X) a).toArray 59)).heap[w5.heap.size]? = some (.cells (fdC (fl X) (fr X) a).toArray 59 (0, 0)) := alloc_at rfl
    have hb6 := hx6.at hb5 (by simp)
    simp (disch := first | assumption | omega | (simp only [szR, tgC_len, tgC_all, entC_len, entC_all, tvC_len, tvC_all, actC_len, actC_all, plC_len, plC_all, tbC_len, tbC_all, fdC_len, fdC_all] <;> omega) | rfl | decide) only [gen0, gen1, gen2, rulesM, rulesT, rulesQ, litR, bolR, Nat.reduceAdd, Nat.reduceLeDiff, numR, memR, valR, heapR, updR, intR, decR, extR, slR, segR, thenR, pnR, Int.reduceToNat, Int.reduceAdd, Int.reduceSub, Int.reduceLT, Int.reduceLE, Nat.reduceSub, Nat.reduceMul, Nat.reduceEqDiff, joinBR, fd_drop0, hb6, hb5, tvC_sub]
    refine hg (hx5.trans hx6 (by simp)) fun w7 hx7 => ?_
    have hF7 := hx7.at hF6 (by simp)
    have lF7 := lt_of_at hF7
    have e3 : decide (((x : Nat) : Int) < 12) = true := decide_eq_true (by omega)
    simp (disch := first | assumption | omega | (simp only [szR, tgC_len, tgC_all, entC_len, entC_all, tvC_len, tvC_all, actC_len, actC_all, plC_len, plC_all, tbC_len, tbC_all, fdC_len, fdC_all] <;> omega) | rfl | decide) only [gen0, gen1, gen2, rulesM, rulesT, rulesQ, litR, bolR, Nat.reduceAdd, Nat.reduceLeDiff, numR, memR, valR, heapR, updR, intR, decR, extR, slR, segR, thenR, pnR, Int.reduceToNat, Int.reduceAdd, Int.reduceSub, Int.reduceLT, Int.reduceLE, Nat.reduceSub, Nat.reduceMul, Nat.reduceEqDiff, joinBR, ent_drop0, entC_sub, entC_frame, e3, hF7, fdC_sub13, h4, neqE9, eqE_me, Bool.not_true]
    exact one_spec fun w8 hx8 => hK _ ((((h5.tab.ext.trans hx6 (by simp)).trans hx7 (by simp)).trans (Ext.alloc Ext.refl _ _ : Ext [] w7 _) (by simp)).trans hx8 (by simp))
  · rw [h1]
    unfold wkR
    have hx6 : Ext [] w5 (w5.alloc (.cells (fdC noF 0 0).toArray 59)) := Ext.alloc Ext.refl _ _
    have hb6 := hx6.at hb5 (by simp)
    simp (disch := first | assumption | omega | (simp only [szR, tgC_len, tgC_all, entC_len, entC_all, tvC_len, tvC_all, actC_len, actC_all, plC_len, plC_all, tbC_len, tbC_all, fdC_len, fdC_all] <;> omega) | rfl | decide) only [gen0, gen1, gen2, rulesM, rulesT, rulesQ, litR, bolR, Nat.reduceAdd, Nat.reduceLeDiff, numR, memR, valR, heapR, updR, intR, decR, extR, slR, segR, thenR, pnR, Int.reduceToNat, Int.reduceAdd, Int.reduceSub, Int.reduceLT, Int.reduceLE, Nat.reduceSub, Nat.reduceMul, Nat.reduceEqDiff, joinBR, fd_drop0, hb6, hb5, tvC_sub]
    refine hg (hx5.trans hx6 (by simp)) fun w7 hx7 => ?_
    cases ok
    · simp (disch := first | assumption | omega | (simp only [szR, tgC_len, tgC_all, entC_len, entC_all, tvC_len, tvC_all, actC_len, actC_all, plC_len, plC_all, tbC_len, tbC_all, fdC_len, fdC_all] <;> omega) | rfl | decide) only [gen0, gen1, gen2, rulesM, rulesT, rulesQ, litR, bolR, Nat.reduceAdd, Nat.reduceLeDiff, numR, memR, valR, heapR, updR, intR, decR, extR, slR, segR, thenR, pnR, Int.reduceToNat, Int.reduceAdd, Int.reduceSub, Int.reduceLT, Int.reduceLE, Nat.reduceSub, Nat.reduceMul, Nat.reduceEqDiff, joinBR, ent_drop0, entC_sub, entC_frame]
      exact one_spec fun w8 hx8 => hK _ ((((h5.tab.ext.trans hx6 (by simp)).trans hx7 (by simp)).trans (Ext.alloc Ext.refl _ _ : Ext [] w7 _) (by simp)).trans hx8 (by simp))
    · have e3 : decide (((x : Nat) : Int) < 12) = false := decide_eq_false (by have := h2 rfl; omega)
      simp (disch := first | assumption | omega | (simp only [szR, tgC_len, tgC_all, entC_len, entC_all, tvC_len, tvC_all, actC_len, actC_all, plC_len, plC_all, tbC_len, tbC_all, fdC_len, fdC_all] <;> omega) | rfl | decide) only [gen0, gen1, gen2, rulesM, rulesT, rulesQ, litR, bolR, Nat.reduceAdd, Nat.reduceLeDiff, numR, memR, valR, heapR, updR, intR, decR, extR, slR, segR, thenR, pnR, Int.reduceToNat, Int.reduceAdd, Int.reduceSub, Int.reduceLT, Int.reduceLE, Nat.reduceSub, Nat.reduceMul, Nat.reduceEqDiff, joinBR, ent_drop0, entC_sub, entC_frame, e3]
      exact one_spec fun w8 hx8 => hK _ ((((h5.tab.ext.trans hx6 (by simp)).trans hx7 (by simp)).trans (Ext.alloc Ext.refl _ _ : Ext [] w7 _) (by simp)).trans hx8 (by simp))
end Go.Proofs.Ytfpcflmgipklcaa
