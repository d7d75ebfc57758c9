/- All that was painted wiped: nothing is left; conditions: those of each theorem. -/
import Derived.Test.YtgnibcaflidjmaaSKA
namespace Go.Proofs.Ytgnibcaflidjmaa
open Go.Fx Go.ChangeShapes Go.WideShapes
set_option maxRecDepth 100000
set_option linter.unusedSimpArgs false
set_option linter.unusedVariables false
set_option maxHeartbeats 800000 in
theorem fin_cont {w : World} {v : Value} {l : List (Nat × Nat)} {b5 mb : Nat} (hv : RowsAt w v 2 (l.map spC)) (hl : ∀ s ∈ l, spOk s) (h5 : w.heap[b5]? = some (.cells [.map (some mb)].toArray 50 (0, 0))) (hB : Bm w (some mb) (bl l))
    {s0 : List Value} {v5 : Value} (es : s0 = [v]) (f5 : v5 = .pointer (some ⟨b5, 0, none⟩)) {K : Value → World → Prop} (hK : ∀ w', Ext [] w w' → K (.bool true) w') : ((fun s11 w => ∀ _ : Nat → Value,
  kV Try.prog (Instr.loadAt 50 v5) w fun v109 w =>
  kN Try.prog (callN (.func (.func 19) #[] #[]) #[v109, (s0.getD 0 undef)]) w fun v111 w =>
  kV Try.prog (Instr.alloc 50 true (.tuple #[])) w fun v14 w =>
  kU Try.prog (Instr.storeAt 50 v14 v111) w fun _ w =>
  kV Try.prog (Instr.loadAt 50 v14) w fun v112 w =>
  kN Try.prog (callN (.func (.func 21) #[] #[]) #[v112]) w fun v113 w =>
  kV Try.prog (binV .eql 3 (.tmp 113) (.const (.int .i64 0)) v113 (.int .i64 0)) w fun v114 w =>
  joinK (fun J13 : Value → World → Prop => gdK (yb v114) true (fun k => kV Try.prog (Instr.loadAt 50 v14) w k) w fun v116 w =>
  gdK (yb v114) true (fun k => kN Try.prog (callN (.func (.func 23) #[] #[]) #[v116]) w k) w fun v117 w =>
  gdK (yb v114) true (fun k => kV Try.prog (Builtin.len_ #[55] 3 #[v117]) w k) w fun v118 w =>
  gdK (yb v114) true (fun k => kV Try.prog (binV .eql 3 (.tmp 118) (.const (.int .i64 0)) v118 (.int .i64 0)) w k) w fun v119 w =>
  kN Try.prog (pickN v114 v119 (.bool false)) w fun v120_1 w =>
  J13 v120_1 w) fun v120 w =>
  joinK (fun J14 : Value → World → Prop => gdK (yb v120) true (fun k => kN Try.prog (callN (.func (.func 22) #[] #[]) #[]) w k) w fun v122 w =>
  kN Try.prog (pickN v120 v122 (.bool false)) w fun v123_1 w =>
  J14 v123_1 w) fun v123 w =>
  K v123 w) : List Value → World → Prop) [] w := by
  subst es f5
  intro _
  have e1 : ∀ x : Value, sub [x] 0 1 = [x] := fun _ => rfl
  have e1b : ∀ x y : Value, splice [x] 0 [y] = [y] := fun _ _ => rfl
  simp (disch := first | assumption | omega | (simp only [szR, tgC_len, tgC_all, tsC_len, tsC_all, spC_len] <;> omega) | rfl | decide) only [gen0, gen1, gen2, rulesV, rulesM, litR, bolR, Nat.reduceAdd, Nat.reduceLeDiff, numR, memR, valR, heapR, updR, intR, decR, extR, slR, segR, thenR, pnR, Int.reduceToNat, Int.reduceAdd, Int.reduceSub, Int.reduceLT, Int.reduceLE, Nat.reduceSub, Nat.reduceMul, Nat.reduceEqDiff, joinBR, h5, e1]
  refine wipe_spec hB hv hl fun m w2 hW hx2 => ?_
  rw [show l.foldl (wth lessB) (bl l) = fun _ => false from wiped l] at hW
  have hxa : Ext [] w2 (w2.alloc (.cells [.map (some m)].toArray 50)) := Ext.alloc Ext.refl _ _
  have hx3 := hx2.trans hxa (by simp)
  have h14 : (w2.alloc (.cells [.map (some m)].toArray 50)).heap[w2.heap.size]? = some (.cells [.map (some m)].toArray 50 (0, 0)) := alloc_at rfl
  have hW3 := hW.ext0 hxa
  simp (disch := first | assumption | omega | (simp only [szR, tgC_len, tgC_all, tsC_len, tsC_all, spC_len] <;> omega) | rfl | decide) only [gen0, gen1, gen2, rulesV, rulesM, litR, bolR, Nat.reduceAdd, Nat.reduceLeDiff, numR, memR, valR, heapR, updR, intR, decR, extR, slR, segR, thenR, pnR, Int.reduceToNat, Int.reduceAdd, Int.reduceSub, Int.reduceLT, Int.reduceLE, Nat.reduceSub, Nat.reduceMul, Nat.reduceEqDiff, e1, e1b]
  generalize w2.alloc (.cells [.map (some m)].toArray 50) = w3 at hx3 h14 hW3 ⊢
  refine count_spec hW3 (N := 1) (fun _ _ => rfl) (by decide) fun w4 hx4 => ?_
  have hz : cnt (fun _ => false) (256 * 1) = 0 := cnt_none _ fun _ _ => rfl
  have h144 := hx4.at h14 (by simp)
  rw [hz]
  have dz : (((0 : Nat) : Int) == 0) = true := rfl
  have dz2 : decide (((0 : Nat) : Int) = 0) = true := rfl
  simp (disch := first | assumption | omega | (simp only [szR, tgC_len, tgC_all, tsC_len, tsC_all, spC_len] <;> omega) | rfl | decide) only [gen0, gen1, gen2, rulesV, rulesM, litR, bolR, Nat.reduceAdd, Nat.reduceLeDiff, numR, memR, valR, heapR, updR, intR, decR, extR, slR, segR, thenR, pnR, Int.reduceToNat, Int.reduceAdd, Int.reduceSub, Int.reduceLT, Int.reduceLE, Nat.reduceSub, Nat.reduceMul, Nat.reduceEqDiff, joinBR, h144, e1, dz, dz2]
  have hno : ∀ k, anyB (pgB (fun _ => false) k) ≠ true := fun k h => by
    obtain ⟨j, hj, h1⟩ := anyB_iff.1 h
    rw [pgB_at hj] at h1
    cases h1
  refine Spans_spec (hW3.ext0 hx4) (N := 0) (fun ys hy => by
    cases ys with
    | nil => exact Nat.le_refl _
    | cons y ys => exact absurd ((hy.2 y).1 (List.mem_cons_self ..)) (hno y)) (by omega) (fun k hk => absurd hk (hno k)) fun u l2 w5 ho hc hll hF hx5 => ?_
  have hl2 : l2 = [] := by
    cases l2 with
    | nil => rfl
    | cons p l2 =>
      have h1 := (hc.1 p (List.mem_cons_self ..)).1
      exact absurd ((hc.2 p.1).2 ⟨p, List.mem_cons_self .., Nat.le_refl _, h1⟩) (by simp)
  subst hl2
  obtain ⟨a, c, hu⟩ := ho.rows.len
  subst hu
  have hx6 := (hx3.trans hx4 (by simp)).trans hx5 (by simp)
  simp (disch := first | assumption | omega | (simp only [szR, tgC_len, tgC_all, tsC_len, tsC_all, spC_len] <;> omega) | rfl | decide) only [gen0, gen1, gen2, rulesV, rulesM, litR, bolR, Nat.reduceAdd, Nat.reduceLeDiff, numR, memR, valR, heapR, updR, intR, decR, extR, slR, segR, thenR, pnR, Int.reduceToNat, Int.reduceAdd, Int.reduceSub, Int.reduceLT, Int.reduceLE, Nat.reduceSub, Nat.reduceMul, Nat.reduceEqDiff, joinBR, List.map_nil, List.length_nil, dz, dz2]

  refine one_spec fun w6 hx7 => ?_
  simp (disch := first | assumption | omega | (simp only [szR, tgC_len, tgC_all, tsC_len, tsC_all, spC_len] <;> omega) | rfl | decide) only [gen0, gen1, gen2, rulesV, rulesM, litR, bolR, Nat.reduceAdd, Nat.reduceLeDiff, numR, memR, valR, heapR, updR, intR, decR, extR, slR, segR, thenR, pnR, Int.reduceToNat, Int.reduceAdd, Int.reduceSub, Int.reduceLT, Int.reduceLE, Nat.reduceSub, Nat.reduceMul, Nat.reduceEqDiff, joinBR]
  exact hK w6 (hx6.trans hx7 (by simp))
end Go.Proofs.Ytgnibcaflidjmaa
