/- What is painted of two spans, wiped, counted; conditions: those of each theorem. -/
import Derived.Test.YtgnibcaflidjmaaBm4
namespace Go.Proofs.Ytgnibcaflidjmaa
open Go.Fx Go.ChangeShapes Go.WideShapes
set_option maxRecDepth 100000
set_option linter.unusedSimpArgs false
set_option linter.unusedVariables false
theorem spC_len (s : Nat × Nat) : (spC s).length = 2 := by simp [spC]
/-- the granules that a span paints. -/
def sp (s : Nat × Nat) (g : Nat) : Bool := mayS s && inS s g
theorem sp_small {s : Nat × Nat} {g N : Nat} (hN : N = 67108864) (hg : 256 * N ≤ g) : sp s g = false := by
  subst hN
  unfold sp mayS inS
  rw [← Bool.decide_and, decide_eq_false]
  omega
theorem or_zero (s : Nat × Nat) : wth orB (fun _ => false) s = sp s := by
  funext g
  simp [wth, orB, sp]
theorem or_two (A : Nat → Bool) (s : Nat × Nat) : wth orB A s = fun g => A g || sp s g := rfl
theorem less_two (A : Nat → Bool) (s : Nat × Nat) : wth lessB A s = fun g => A g && !sp s g := rfl
theorem or_same (s : Nat × Nat) : wth orB (sp s) s = sp s := by
  funext g
  simp [wth, orB, sp]
theorem less_same (A : Nat → Bool) (s : Nat × Nat) : wth lessB (fun g => A g && !sp s g) s = fun g => A g && !sp s g := by
  funext g
  simp only [wth, lessB, sp]
  cases A g <;> cases mayS s <;> cases inS s g <;> rfl
theorem bm_none (w : World) : Bm w none (fun _ => false) := fun _ => rfl
theorem bs2 (vs us : List Value) (h1 : vs.length = 2) (h2 : us.length = 2) (w : World) : (Instr.buildSlice 55 2 #[(0, .agg vs.toArray), (1, .agg us.toArray)]).run Try.prog w = .ok (.slice (some ⟨w.heap.size, 0, none⟩) 2 2) (w.alloc (.cells (vs ++ us).toArray 47)) := by
  have := run_bs Try.underlying55 (e := 47) (size := 2) (by kernel_rfl) [.agg vs.toArray, .agg us.toArray] (by simp [Value.cells, h1, h2]) (by simp) w
  simpa [Value.cells, partsFrom] using this
theorem one_spec {w : World} {K : Value → World → Prop} (hK : ∀ w', Ext [] w w' → K (.bool true) w') : callsK Try.prog 22 #[] w K := by
  apply F22_ok
  unfold F22
  have e1 : ∀ x : Value, sub [x] 0 1 = [x] := fun _ => rfl
  simp (disch := first | assumption | omega | (simp only [szR, tgC_len, tgC_all, tsC_len, tsC_all, spC_len] <;> omega) | rfl | decide) only [gen0, gen1, gen2, rulesM, litR, bolR, Nat.reduceAdd, Nat.reduceLeDiff, numR, memR, valR, heapR, updR, intR, decR, extR, slR, segR, thenR, pnR, Int.reduceToNat, Int.reduceAdd, Int.reduceSub, Int.reduceLT, Int.reduceLE, Nat.reduceSub, Nat.reduceMul, Nat.reduceEqDiff, e1]
  have hx0 : Ext [] w ((w.alloc (.cells [.map none].toArray 50)).alloc (.cells [.int .u64 8, .int .u64 24].toArray 47)) := by (repeat first | assumption | exact Ext.refl | apply Ext.alloc | apply Ext.drew | (refine Ext.updN ?_ ?_; (focus first | omega | (simp only [szR] <;> omega))) | (refine Ext.updI ?_ ?_; (focus (simp; done))))
  have hrow : RowsAt ((w.alloc (.cells [.map none].toArray 50)).alloc (.cells [.int .u64 8, .int .u64 24].toArray 47)) (.slice (some ⟨w.heap.size + 1, 0, none⟩) 1 1) 2 ([((8 : Nat), (24 : Nat))].map spC) := RowsAt.one (E := 47) (f := (0, 0)) (by first | with_reducible rfl | assumption | (simp (disch := first | assumption | omega | (simp only [szR, tgC_len, tgC_all, tsC_len, tsC_all, spC_len] <;> omega) | rfl | decide) only [gen0, gen1, gen2, rulesM, litR, bolR, Nat.reduceAdd, Nat.reduceLeDiff, numR, memR, valR, heapR, updR, intR, decR, extR, slR, segR, thenR, pnR, Int.reduceToNat, Int.reduceAdd, Int.reduceSub, Int.reduceLT, Int.reduceLE, Nat.reduceSub, Nat.reduceMul, Nat.reduceEqDiff] <;> rfl)) rfl
  refine paint_spec (bm_none _) hrow (by simp [spOk]) fun m w1 hB hx => ?_
  have hB1 : Bm w1 (some m) (sp (8, 24)) := by rw [← or_zero]; exact hB
  have hx1 := hx0.trans hx (by simp)
  have h1 := hx.at (b := w.heap.size) (o := .cells [.map none].toArray 50 (0, 0)) (by first | with_reducible rfl | assumption | (simp (disch := first | assumption | omega | (simp only [szR, tgC_len, tgC_all, tsC_len, tsC_all, spC_len] <;> omega) | rfl | decide) only [gen0, gen1, gen2, rulesM, litR, bolR, Nat.reduceAdd, Nat.reduceLeDiff, numR, memR, valR, heapR, updR, intR, decR, extR, slR, segR, thenR, pnR, Int.reduceToNat, Int.reduceAdd, Int.reduceSub, Int.reduceLT, Int.reduceLE, Nat.reduceSub, Nat.reduceMul, Nat.reduceEqDiff] <;> rfl)) (by simp)
  have hlt := lt_of_at h1
  have e2 : ∀ x y : Value, splice [x] 0 [y] = [y] := fun _ _ => rfl
  have hN : ∀ g, 256 * 1 ≤ g → sp (8, 24) g = false := by
    intro g hg
    unfold sp inS
    rw [decide_eq_false (by omega), Bool.and_false]
  have hc : cnt (sp (8, 24)) (256 * 1) = 2 := by decide
  have hx2 : Ext [] w1 (w1.alloc (.cells [.map (some m)].toArray 50)) := by (repeat first | assumption | exact Ext.refl | apply Ext.alloc | apply Ext.drew | (refine Ext.updN ?_ ?_; (focus first | omega | (simp only [szR] <;> omega))) | (refine Ext.updI ?_ ?_; (focus (simp; done))))
  simp (disch := first | assumption | omega | (simp only [szR, tgC_len, tgC_all, tsC_len, tsC_all, spC_len] <;> omega) | rfl | decide) only [gen0, gen1, gen2, rulesM, litR, bolR, Nat.reduceAdd, Nat.reduceLeDiff, numR, memR, valR, heapR, updR, intR, decR, extR, slR, segR, thenR, pnR, Int.reduceToNat, Int.reduceAdd, Int.reduceSub, Int.reduceLT, Int.reduceLE, Nat.reduceSub, Nat.reduceMul, Nat.reduceEqDiff, e1, e2]
  refine count_spec (hB1.ext0 hx2) hN (by decide) fun w2 hx3 => ?_
  rw [hc]
  have hx4 := hx2.trans hx3 (by simp)
  have hx5 := hx1.trans hx4 (by simp)
  have h2 := hx3.at (b := w1.heap.size) (o := .cells [.map (some m)].toArray 50 (0, 0)) (by first | with_reducible rfl | assumption | (simp (disch := first | assumption | omega | (simp only [szR, tgC_len, tgC_all, tsC_len, tsC_all, spC_len] <;> omega) | rfl | decide) only [gen0, gen1, gen2, rulesM, litR, bolR, Nat.reduceAdd, Nat.reduceLeDiff, numR, memR, valR, heapR, updR, intR, decR, extR, slR, segR, thenR, pnR, Int.reduceToNat, Int.reduceAdd, Int.reduceSub, Int.reduceLT, Int.reduceLE, Nat.reduceSub, Nat.reduceMul, Nat.reduceEqDiff] <;> rfl)) (by simp)
  have h12 := hx4.at h1 (by simp)
  simp (disch := first | assumption | omega | (simp only [szR, tgC_len, tgC_all, tsC_len, tsC_all, spC_len] <;> omega) | rfl | decide) only [gen0, gen1, gen2, rulesM, litR, bolR, Nat.reduceAdd, Nat.reduceLeDiff, numR, memR, valR, heapR, updR, intR, decR, extR, slR, segR, thenR, pnR, Int.reduceToNat, Int.reduceAdd, Int.reduceSub, Int.reduceLT, Int.reduceLE, Nat.reduceSub, Nat.reduceMul, Nat.reduceEqDiff, joinBR, h2, e1]
  refine has_spec (a := 31) (hB1.ext0 hx4) (by decide) fun w3 hx6 => ?_
  have q1 : sp (8, 24) (31 / 16) = true := by decide
  rw [q1]
  have h3 := hx6.at h2 (by simp)
  simp (disch := first | assumption | omega | (simp only [szR, tgC_len, tgC_all, tsC_len, tsC_all, spC_len] <;> omega) | rfl | decide) only [gen0, gen1, gen2, rulesM, litR, bolR, Nat.reduceAdd, Nat.reduceLeDiff, numR, memR, valR, heapR, updR, intR, decR, extR, slR, segR, thenR, pnR, Int.reduceToNat, Int.reduceAdd, Int.reduceSub, Int.reduceLT, Int.reduceLE, Nat.reduceSub, Nat.reduceMul, Nat.reduceEqDiff, joinBR, h3, e1]
  refine has_spec (a := 32) (hB1.ext0 (hx4.trans hx6 (by simp))) (by decide) fun w4 hx7 => ?_
  have q2 : sp (8, 24) (32 / 16) = false := by decide
  rw [q2]
  have h14 := hx7.at (hx6.at h12 (by simp)) (by simp)
  simp (disch := first | assumption | omega | (simp only [szR, tgC_len, tgC_all, tsC_len, tsC_all, spC_len] <;> omega) | rfl | decide) only [gen0, gen1, gen2, rulesM, litR, bolR, Nat.reduceAdd, Nat.reduceLeDiff, numR, memR, valR, heapR, updR, intR, decR, extR, slR, segR, thenR, pnR, Int.reduceToNat, Int.reduceAdd, Int.reduceSub, Int.reduceLT, Int.reduceLE, Nat.reduceSub, Nat.reduceMul, Nat.reduceEqDiff, joinBR, h14, e1, Bool.not_false]
  refine count_spec (bm_none _) (N := 1) (fun _ _ => rfl) (by decide) fun w5 hx8 => ?_
  rw [cnt_none _ fun _ _ => rfl]
  simp (disch := first | assumption | omega | (simp only [szR, tgC_len, tgC_all, tsC_len, tsC_all, spC_len] <;> omega) | rfl | decide) only [gen0, gen1, gen2, rulesM, litR, bolR, Nat.reduceAdd, Nat.reduceLeDiff, numR, memR, valR, heapR, updR, intR, decR, extR, slR, segR, thenR, pnR, Int.reduceToNat, Int.reduceAdd, Int.reduceSub, Int.reduceLT, Int.reduceLE, Nat.reduceSub, Nat.reduceMul, Nat.reduceEqDiff, joinBR]
  exact hK _ (hx5.trans (hx6.trans (hx7.trans hx8 (by simp)) (by simp)) (by simp))

set_option maxHeartbeats 4000000 in
theorem has_region {w : World} {z : Nat} (ha : z < 18446744073709551616) {A B : Nat → Bool} {b8 b9 b10 b11 mx my mb mo : Nat} {X Y : Bool} (hX : A (z / 16) = X) (hY : B (z / 16) = Y)
    (h8 : w.heap[b8]? = some (.cells [.map (some mx)].toArray 50 (0, 0))) (h9 : w.heap[b9]? = some (.cells [.map (some my)].toArray 50 (0, 0))) (h10 : w.heap[b10]? = some (.cells [.map (some mb)].toArray 50 (0, 0))) (h11 : w.heap[b11]? = some (.cells [.map (some mo)].toArray 50 (0, 0)))
    (hx : Bm w (some mx) A) (hy : Bm w (some my) B) (hb : Bm w (some mb) fun g => A g || B g) (ho : Bm w (some mo) fun g => A g && !B g)
    {v10 v11 t2 : Value} {s0 : List Value} (e10 : v10 = .pointer (some ⟨b10, 0, none⟩)) (e11 : v11 = .pointer (some ⟨b11, 0, none⟩)) (e2 : t2 = .int .u64 (z : Int)) (es : s0 = [.pointer (some ⟨b8, 0, none⟩), .pointer (some ⟨b9, 0, none⟩)])
    {J2 : List Value → World → Prop} (hJ : ∀ w', Ext [] w w' → J2 [.bool false] w') : (drewK (fun w =>
  relX fun R8 =>
  postX R8 (fun p8_31 => allX R8 w fun v8 w => True → kV Try.prog (Instr.loadAt 50 v10) w (okX R8 w p8_31)) fun p8_31 =>
  postX R8 (fun p8_32 => allX R8 w fun v8 w => True → (okX R8 w p8_32) t2 w) fun p8_32 =>
  postX R8 (fun p8_33 => allX R8 w fun v8 w => p8_31 (v8 31) w ∧ p8_32 (v8 32) w ∧ True → kN Try.prog (callN (.func (.func 20) #[] #[]) #[(v8 31), (v8 32)]) w (okX R8 w p8_33)) fun p8_33 =>
  postX R8 (fun p8_34 => allX R8 w fun v8 w => True → kV Try.prog (Instr.loadAt 50 (s0.getD 0 undef)) w (okX R8 w p8_34)) fun p8_34 =>
  postX R8 (fun p8_35 => allX R8 w fun v8 w => True → (okX R8 w p8_35) t2 w) fun p8_35 =>
  postX R8 (fun p8_36 => allX R8 w fun v8 w => p8_33 (v8 33) w ∧ p8_34 (v8 34) w ∧ p8_35 (v8 35) w ∧ True → kN Try.prog (callN (.func (.func 20) #[] #[]) #[(v8 34), (v8 35)]) w (okX R8 w p8_36)) fun p8_36 =>
  postX R8 (fun p8_37 => allX R8 w fun v8 w => p8_36 (v8 36) w ∧ True → (okX R8 w p8_37) (v8 36) w) fun p8_37 =>
  postX R8 (fun p8_38 => allX R8 w fun v8 w => p8_37 (v8 37) w ∧ True → gdK (yb (v8 37)) false (fun k => kV Try.prog (Instr.loadAt 50 (s0.getD 1 undef)) w k) w (okX R8 w p8_38)) fun p8_38 =>
  postX R8 (fun p8_39 => allX R8 w fun v8 w => p8_37 (v8 37) w ∧ True → gdK (yb (v8 37)) false (fun k => k t2 w) w (okX R8 w p8_39)) fun p8_39 =>
  postX R8 (fun p8_40 => allX R8 w fun v8 w => p8_37 (v8 37) w ∧ p8_38 (v8 38) w ∧ p8_39 (v8 39) w ∧ True → gdK (yb (v8 37)) false (fun k => kN Try.prog (callN (.func (.func 20) #[] #[]) #[(v8 38), (v8 39)]) w k) w (okX R8 w p8_40)) fun p8_40 =>
  postX R8 (fun p8_41 => allX R8 w fun v8 w => p8_37 (v8 37) w ∧ p8_40 (v8 40) w ∧ True → kN Try.prog (pickN (v8 37) (.bool true) (v8 40)) w (okX R8 w p8_41)) fun p8_41 =>
  postX R8 (fun p8_42 => allX R8 w fun v8 w => p8_33 (v8 33) w ∧ p8_41 (v8 41) w ∧ True → kV Try.prog (binV .neq 4 (.tmp 33) (.tmp 41) (v8 33) (v8 41)) w (okX R8 w p8_42)) fun p8_42 =>
  postX R8 (fun p8_43 => allX R8 w fun v8 w => p8_40 (v8 40) w ∧ p8_42 (v8 42) w ∧ True → (okX R8 w p8_43) (v8 42) w) fun p8_43 =>
  postX R8 (fun p8_44 => allX R8 w fun v8 w => p8_43 (v8 43) w ∧ True → gdK (yb (v8 43)) false (fun k => kV Try.prog (Instr.loadAt 50 v11) w k) w (okX R8 w p8_44)) fun p8_44 =>
  postX R8 (fun p8_45 => allX R8 w fun v8 w => p8_43 (v8 43) w ∧ True → gdK (yb (v8 43)) false (fun k => k t2 w) w (okX R8 w p8_45)) fun p8_45 =>
  postX R8 (fun p8_46 => allX R8 w fun v8 w => p8_43 (v8 43) w ∧ p8_44 (v8 44) w ∧ p8_45 (v8 45) w ∧ True → gdK (yb (v8 43)) false (fun k => kN Try.prog (callN (.func (.func 20) #[] #[]) #[(v8 44), (v8 45)]) w k) w (okX R8 w p8_46)) fun p8_46 =>
  postX R8 (fun p8_47 => allX R8 w fun v8 w => p8_43 (v8 43) w ∧ True → gdK (yb (v8 43)) false (fun k => kV Try.prog (Instr.loadAt 50 (s0.getD 0 undef)) w k) w (okX R8 w p8_47)) fun p8_47 =>
  postX R8 (fun p8_48 => allX R8 w fun v8 w => p8_43 (v8 43) w ∧ True → gdK (yb (v8 43)) false (fun k => k t2 w) w (okX R8 w p8_48)) fun p8_48 =>
  postX R8 (fun p8_49 => allX R8 w fun v8 w => p8_43 (v8 43) w ∧ p8_46 (v8 46) w ∧ p8_47 (v8 47) w ∧ p8_48 (v8 48) w ∧ True → gdK (yb (v8 43)) false (fun k => kN Try.prog (callN (.func (.func 20) #[] #[]) #[(v8 47), (v8 48)]) w k) w (okX R8 w p8_49)) fun p8_49 =>
  postX R8 (fun p8_50 => allX R8 w fun v8 w => p8_43 (v8 43) w ∧ p8_49 (v8 49) w ∧ True → gdK (yb (v8 43)) false (fun k => k (v8 49) w) w (okX R8 w p8_50)) fun p8_50 =>
  postX R8 (fun p8_51 => allX R8 w fun v8 w => p8_50 (v8 50) w ∧ True → gdK (yb (v8 50)) true (fun k => kV Try.prog (Instr.loadAt 50 (s0.getD 1 undef)) w k) w (okX R8 w p8_51)) fun p8_51 =>
  postX R8 (fun p8_52 => allX R8 w fun v8 w => p8_50 (v8 50) w ∧ True → gdK (yb (v8 50)) true (fun k => k t2 w) w (okX R8 w p8_52)) fun p8_52 =>
  postX R8 (fun p8_53 => allX R8 w fun v8 w => p8_50 (v8 50) w ∧ p8_51 (v8 51) w ∧ p8_52 (v8 52) w ∧ True → gdK (yb (v8 50)) true (fun k => kN Try.prog (callN (.func (.func 20) #[] #[]) #[(v8 51), (v8 52)]) w k) w (okX R8 w p8_53)) fun p8_53 =>
  postX R8 (fun p8_54 => allX R8 w fun v8 w => p8_50 (v8 50) w ∧ p8_53 (v8 53) w ∧ True → gdK (yb (v8 50)) true (fun k => kV Try.prog (Op.unary .not (v8 53)) w k) w (okX R8 w p8_54)) fun p8_54 =>
  postX R8 (fun p8_55 => allX R8 w fun v8 w => p8_43 (v8 43) w ∧ p8_50 (v8 50) w ∧ p8_54 (v8 54) w ∧ True → gdK (yb (v8 43)) false (fun k => kN Try.prog (pickN (v8 50) (v8 54) (.bool false)) w k) w (okX R8 w p8_55)) fun p8_55 =>
  postX R8 (fun p8_56 => allX R8 w fun v8 w => p8_43 (v8 43) w ∧ p8_46 (v8 46) w ∧ p8_55 (v8 55) w ∧ True → gdK (yb (v8 43)) false (fun k => kV Try.prog (binV .neq 4 (.tmp 46) (.tmp 55) (v8 46) (v8 55)) w k) w (okX R8 w p8_56)) fun p8_56 =>
  postX R8 (fun p8_57 => allX R8 w fun v8 w => p8_43 (v8 43) w ∧ p8_56 (v8 56) w ∧ True → kN Try.prog (pickN (v8 43) (.bool true) (v8 56)) w (okX R8 w p8_57)) fun p8_57 =>
  allX R8 w fun v8 w => p8_31 (v8 31) w ∧ p8_32 (v8 32) w ∧ p8_33 (v8 33) w ∧ p8_34 (v8 34) w ∧ p8_35 (v8 35) w ∧ p8_36 (v8 36) w ∧ p8_37 (v8 37) w ∧ p8_38 (v8 38) w ∧ p8_39 (v8 39) w ∧ p8_40 (v8 40) w ∧ p8_41 (v8 41) w ∧ p8_42 (v8 42) w ∧ p8_43 (v8 43) w ∧ p8_44 (v8 44) w ∧ p8_45 (v8 45) w ∧ p8_46 (v8 46) w ∧ p8_47 (v8 47) w ∧ p8_48 (v8 48) w ∧ p8_49 (v8 49) w ∧ p8_50 (v8 50) w ∧ p8_51 (v8 51) w ∧ p8_52 (v8 52) w ∧ p8_53 (v8 53) w ∧ p8_54 (v8 54) w ∧ p8_55 (v8 55) w ∧ p8_56 (v8 56) w ∧ p8_57 (v8 57) w ∧ True → xDist v8 [] →
  J2 [(v8 57)] w) w) := by
  subst e10 e11 e2 es
  have e1 : ∀ x : Value, sub [x] 0 1 = [x] := fun _ => rfl
  have g0 : ∀ x y : Value, [x, y].getD 0 undef = x := fun _ _ => rfl
  have g1 : ∀ x y : Value, [x, y].getD 1 undef = y := fun _ _ => rfl
  rw [drewK_eq]
  have hd0 : Ext [] w w.drew := by (repeat first | assumption | exact Ext.refl | apply Ext.alloc | apply Ext.drew | (refine Ext.updN ?_ ?_; (focus first | omega | (simp only [szR] <;> omega))) | (refine Ext.updI ?_ ?_; (focus (simp; done))))
  replace hJ : ∀ w', Ext [] w.drew w' → J2 [.bool false] w' := fun w' h => hJ w' (hd0.trans h (by simp))
  replace h8 := hd0.at h8 (by simp)
  replace h9 := hd0.at h9 (by simp)
  replace h10 := hd0.at h10 (by simp)
  replace h11 := hd0.at h11 (by simp)
  replace hx := hx.ext0 hd0
  replace hy := hy.ext0 hd0
  replace hb := hb.ext0 hd0
  replace ho := ho.ext0 hd0
  have hXY : (A (z / 16) || B (z / 16)) = (X || Y) := by rw [hX, hY]
  have hXN : (A (z / 16) && !B (z / 16)) = (X && !Y) := by rw [hX, hY]
  clear hd0
  generalize w.drew = w at *
  refine relX.ext [] ?_
  refine postX.is (.agg [.map (some mb)].toArray) (fun v w1 hR hd => by
    clear hd
    have e := hR.at h10 (by simp)
    simp (disch := first | assumption | omega | (simp only [szR, tgC_len, tgC_all, tsC_len, tsC_all, spC_len] <;> omega) | rfl | decide) only [gen0, gen1, gen2, rulesM, litR, bolR, Nat.reduceAdd, Nat.reduceLeDiff, numR, memR, valR, heapR, updR, intR, decR, extR, slR, segR, thenR, pnR, Int.reduceToNat, Int.reduceAdd, Int.reduceSub, Int.reduceLT, Int.reduceLE, Nat.reduceSub, Nat.reduceMul, Nat.reduceEqDiff, e, e1, cond_true, cond_false]
    exact okX.is) ?_
  refine postX.is (.int .u64 (z : Int)) (fun v w1 hR hd => by
    clear hd
    exact okX.is) ?_
  refine postX.is (.bool (X || Y)) (fun v w1 hR hd => by
    obtain ⟨d1, d2, -⟩ := hd; simp only [d1, d2, cond_true, cond_false]
    simp (disch := first | assumption | omega | (simp only [szR, tgC_len, tgC_all, tsC_len, tsC_all, spC_len] <;> omega) | rfl | decide) only [gen0, gen1, gen2, rulesM, litR, bolR, Nat.reduceAdd, Nat.reduceLeDiff, numR, memR, valR, heapR, updR, intR, decR, extR, slR, segR, thenR, pnR, Int.reduceToNat, Int.reduceAdd, Int.reduceSub, Int.reduceLT, Int.reduceLE, Nat.reduceSub, Nat.reduceMul, Nat.reduceEqDiff, d1, d2, cond_true, cond_false]
    exact has_spec (hb.ext0 hR) ha fun w2 hx => okX.mk hx (congrArg Value.bool (hXY))) ?_
  refine postX.is (.agg [.map (some mx)].toArray) (fun v w1 hR hd => by
    clear hd
    have e := hR.at h8 (by simp)
    simp (disch := first | assumption | omega | (simp only [szR, tgC_len, tgC_all, tsC_len, tsC_all, spC_len] <;> omega) | rfl | decide) only [gen0, gen1, gen2, rulesM, litR, bolR, Nat.reduceAdd, Nat.reduceLeDiff, numR, memR, valR, heapR, updR, intR, decR, extR, slR, segR, thenR, pnR, Int.reduceToNat, Int.reduceAdd, Int.reduceSub, Int.reduceLT, Int.reduceLE, Nat.reduceSub, Nat.reduceMul, Nat.reduceEqDiff, e, e1, cond_true, cond_false]
    exact okX.is) ?_
  refine postX.is (.int .u64 (z : Int)) (fun v w1 hR hd => by
    clear hd
    exact okX.is) ?_
  refine postX.is (.bool X) (fun v w1 hR hd => by
    obtain ⟨d1, d2, d3, -⟩ := hd; simp only [d1, d2, d3, cond_true, cond_false]
    simp (disch := first | assumption | omega | (simp only [szR, tgC_len, tgC_all, tsC_len, tsC_all, spC_len] <;> omega) | rfl | decide) only [gen0, gen1, gen2, rulesM, litR, bolR, Nat.reduceAdd, Nat.reduceLeDiff, numR, memR, valR, heapR, updR, intR, decR, extR, slR, segR, thenR, pnR, Int.reduceToNat, Int.reduceAdd, Int.reduceSub, Int.reduceLT, Int.reduceLE, Nat.reduceSub, Nat.reduceMul, Nat.reduceEqDiff, d1, d2, d3, cond_true, cond_false]
    exact has_spec (hx.ext0 hR) ha fun w2 hx => okX.mk hx (congrArg Value.bool (hX))) ?_
  refine postX.is (.bool X) (fun v w1 hR hd => by
    obtain ⟨d1, -⟩ := hd; simp only [d1, cond_true, cond_false]
    exact okX.is) ?_
  refine postX.is (bif X then undef else .agg [.map (some my)].toArray) (fun v w1 hR hd => by
    obtain ⟨d1, -⟩ := hd; simp only [d1, cond_true, cond_false]
    have e := hR.at h9 (by simp)
    cases X <;> simp (disch := first | assumption | omega | (simp only [szR, tgC_len, tgC_all, tsC_len, tsC_all, spC_len] <;> omega) | rfl | decide) only [gen0, gen1, gen2, rulesM, litR, bolR, Nat.reduceAdd, Nat.reduceLeDiff, numR, memR, valR, heapR, updR, intR, decR, extR, slR, segR, thenR, pnR, Int.reduceToNat, Int.reduceAdd, Int.reduceSub, Int.reduceLT, Int.reduceLE, Nat.reduceSub, Nat.reduceMul, Nat.reduceEqDiff, d1, e, e1, cond_true, cond_false] <;> exact okX.is) ?_
  refine postX.is (bif X then undef else .int .u64 (z : Int)) (fun v w1 hR hd => by
    obtain ⟨d1, -⟩ := hd; simp only [d1, cond_true, cond_false]
    cases X <;> cases Y <;> simp (disch := first | assumption | omega | (simp only [szR, tgC_len, tgC_all, tsC_len, tsC_all, spC_len] <;> omega) | rfl | decide) only [gen0, gen1, gen2, rulesM, litR, bolR, Nat.reduceAdd, Nat.reduceLeDiff, numR, memR, valR, heapR, updR, intR, decR, extR, slR, segR, thenR, pnR, Int.reduceToNat, Int.reduceAdd, Int.reduceSub, Int.reduceLT, Int.reduceLE, Nat.reduceSub, Nat.reduceMul, Nat.reduceEqDiff, d1, cond_true, cond_false, Bool.or_true, Bool.true_or, Bool.or_false, Bool.false_or, Bool.and_true, Bool.and_false, Bool.true_and, Bool.false_and, Bool.not_true, Bool.not_false, beq_self_eq_true, if_true, if_false, Bool.false_eq_true] <;> exact okX.is) ?_
  refine postX.is (bif X then undef else .bool Y) (fun v w1 hR hd => by
    obtain ⟨d1, d2, d3, -⟩ := hd; simp only [d1, d2, d3, cond_true, cond_false]
    cases X <;> simp (disch := first | assumption | omega | (simp only [szR, tgC_len, tgC_all, tsC_len, tsC_all, spC_len] <;> omega) | rfl | decide) only [gen0, gen1, gen2, rulesM, litR, bolR, Nat.reduceAdd, Nat.reduceLeDiff, numR, memR, valR, heapR, updR, intR, decR, extR, slR, segR, thenR, pnR, Int.reduceToNat, Int.reduceAdd, Int.reduceSub, Int.reduceLT, Int.reduceLE, Nat.reduceSub, Nat.reduceMul, Nat.reduceEqDiff, d1, d2, d3, cond_true, cond_false] <;> first | (with_reducible refine has_spec (hy.ext0 hR) ha ?_; exact fun w2 hx => okX.mk hx (congrArg Value.bool (hY))) | exact okX.is) ?_
  refine postX.is (.bool (X || Y)) (fun v w1 hR hd => by
    obtain ⟨d1, d2, -⟩ := hd; simp only [d1, d2, cond_true, cond_false]
    cases X <;> cases Y <;> simp (disch := first | assumption | omega | (simp only [szR, tgC_len, tgC_all, tsC_len, tsC_all, spC_len] <;> omega) | rfl | decide) only [gen0, gen1, gen2, rulesM, litR, bolR, Nat.reduceAdd, Nat.reduceLeDiff, numR, memR, valR, heapR, updR, intR, decR, extR, slR, segR, thenR, pnR, Int.reduceToNat, Int.reduceAdd, Int.reduceSub, Int.reduceLT, Int.reduceLE, Nat.reduceSub, Nat.reduceMul, Nat.reduceEqDiff, d1, d2, cond_true, cond_false, Bool.or_true, Bool.true_or, Bool.or_false, Bool.false_or, Bool.and_true, Bool.and_false, Bool.true_and, Bool.false_and, Bool.not_true, Bool.not_false, beq_self_eq_true, if_true, if_false, Bool.false_eq_true] <;> exact okX.is) ?_
  refine postX.is (.bool false) (fun v w1 hR hd => by
    obtain ⟨d1, d2, -⟩ := hd; simp only [d1, d2, cond_true, cond_false]
    cases X <;> cases Y <;> simp (disch := first | assumption | omega | (simp only [szR, tgC_len, tgC_all, tsC_len, tsC_all, spC_len] <;> omega) | rfl | decide) only [gen0, gen1, gen2, rulesM, litR, bolR, Nat.reduceAdd, Nat.reduceLeDiff, numR, memR, valR, heapR, updR, intR, decR, extR, slR, segR, thenR, pnR, Int.reduceToNat, Int.reduceAdd, Int.reduceSub, Int.reduceLT, Int.reduceLE, Nat.reduceSub, Nat.reduceMul, Nat.reduceEqDiff, d1, d2, cond_true, cond_false, Bool.or_true, Bool.true_or, Bool.or_false, Bool.false_or, Bool.and_true, Bool.and_false, Bool.true_and, Bool.false_and, Bool.not_true, Bool.not_false, beq_self_eq_true, if_true, if_false, Bool.false_eq_true] <;> exact okX.is) ?_
  refine postX.is (.bool false) (fun v w1 hR hd => by
    obtain ⟨d1, d2, -⟩ := hd; simp only [d1, d2, cond_true, cond_false]
    exact okX.is) ?_
  refine postX.is (.agg [.map (some mo)].toArray) (fun v w1 hR hd => by
    obtain ⟨d1, -⟩ := hd; simp only [d1, cond_true, cond_false]
    have e := hR.at h11 (by simp)
    simp (disch := first | assumption | omega | (simp only [szR, tgC_len, tgC_all, tsC_len, tsC_all, spC_len] <;> omega) | rfl | decide) only [gen0, gen1, gen2, rulesM, litR, bolR, Nat.reduceAdd, Nat.reduceLeDiff, numR, memR, valR, heapR, updR, intR, decR, extR, slR, segR, thenR, pnR, Int.reduceToNat, Int.reduceAdd, Int.reduceSub, Int.reduceLT, Int.reduceLE, Nat.reduceSub, Nat.reduceMul, Nat.reduceEqDiff, d1, e, e1, cond_true, cond_false]
    exact okX.is) ?_
  refine postX.is (.int .u64 (z : Int)) (fun v w1 hR hd => by
    obtain ⟨d1, -⟩ := hd; simp only [d1, cond_true, cond_false]
    simp (disch := first | assumption | omega | (simp only [szR, tgC_len, tgC_all, tsC_len, tsC_all, spC_len] <;> omega) | rfl | decide) only [gen0, gen1, gen2, rulesM, litR, bolR, Nat.reduceAdd, Nat.reduceLeDiff, numR, memR, valR, heapR, updR, intR, decR, extR, slR, segR, thenR, pnR, Int.reduceToNat, Int.reduceAdd, Int.reduceSub, Int.reduceLT, Int.reduceLE, Nat.reduceSub, Nat.reduceMul, Nat.reduceEqDiff, d1, cond_true, cond_false]
    exact okX.is) ?_
  refine postX.is (.bool (X && !Y)) (fun v w1 hR hd => by
    obtain ⟨d1, d2, d3, -⟩ := hd; simp only [d1, d2, d3, cond_true, cond_false]
    simp (disch := first | assumption | omega | (simp only [szR, tgC_len, tgC_all, tsC_len, tsC_all, spC_len] <;> omega) | rfl | decide) only [gen0, gen1, gen2, rulesM, litR, bolR, Nat.reduceAdd, Nat.reduceLeDiff, numR, memR, valR, heapR, updR, intR, decR, extR, slR, segR, thenR, pnR, Int.reduceToNat, Int.reduceAdd, Int.reduceSub, Int.reduceLT, Int.reduceLE, Nat.reduceSub, Nat.reduceMul, Nat.reduceEqDiff, d1, d2, d3, cond_true, cond_false]
    exact has_spec (ho.ext0 hR) ha fun w2 hx => okX.mk hx (congrArg Value.bool (hXN))) ?_
  refine postX.is (.agg [.map (some mx)].toArray) (fun v w1 hR hd => by
    obtain ⟨d1, -⟩ := hd; simp only [d1, cond_true, cond_false]
    have e := hR.at h8 (by simp)
    simp (disch := first | assumption | omega | (simp only [szR, tgC_len, tgC_all, tsC_len, tsC_all, spC_len] <;> omega) | rfl | decide) only [gen0, gen1, gen2, rulesM, litR, bolR, Nat.reduceAdd, Nat.reduceLeDiff, numR, memR, valR, heapR, updR, intR, decR, extR, slR, segR, thenR, pnR, Int.reduceToNat, Int.reduceAdd, Int.reduceSub, Int.reduceLT, Int.reduceLE, Nat.reduceSub, Nat.reduceMul, Nat.reduceEqDiff, d1, e, e1, cond_true, cond_false]
    exact okX.is) ?_
  refine postX.is (.int .u64 (z : Int)) (fun v w1 hR hd => by
    obtain ⟨d1, -⟩ := hd; simp only [d1, cond_true, cond_false]
    simp (disch := first | assumption | omega | (simp only [szR, tgC_len, tgC_all, tsC_len, tsC_all, spC_len] <;> omega) | rfl | decide) only [gen0, gen1, gen2, rulesM, litR, bolR, Nat.reduceAdd, Nat.reduceLeDiff, numR, memR, valR, heapR, updR, intR, decR, extR, slR, segR, thenR, pnR, Int.reduceToNat, Int.reduceAdd, Int.reduceSub, Int.reduceLT, Int.reduceLE, Nat.reduceSub, Nat.reduceMul, Nat.reduceEqDiff, d1, cond_true, cond_false]
    exact okX.is) ?_
  refine postX.is (.bool X) (fun v w1 hR hd => by
    obtain ⟨d1, d2, d3, d4, -⟩ := hd; simp only [d1, d2, d3, d4, cond_true, cond_false]
    simp (disch := first | assumption | omega | (simp only [szR, tgC_len, tgC_all, tsC_len, tsC_all, spC_len] <;> omega) | rfl | decide) only [gen0, gen1, gen2, rulesM, litR, bolR, Nat.reduceAdd, Nat.reduceLeDiff, numR, memR, valR, heapR, updR, intR, decR, extR, slR, segR, thenR, pnR, Int.reduceToNat, Int.reduceAdd, Int.reduceSub, Int.reduceLT, Int.reduceLE, Nat.reduceSub, Nat.reduceMul, Nat.reduceEqDiff, d1, d2, d3, d4, cond_true, cond_false]
    exact has_spec (hx.ext0 hR) ha fun w2 hx => okX.mk hx (congrArg Value.bool (hX))) ?_
  refine postX.is (.bool X) (fun v w1 hR hd => by
    obtain ⟨d1, d2, -⟩ := hd; simp only [d1, d2, cond_true, cond_false]
    simp (disch := first | assumption | omega | (simp only [szR, tgC_len, tgC_all, tsC_len, tsC_all, spC_len] <;> omega) | rfl | decide) only [gen0, gen1, gen2, rulesM, litR, bolR, Nat.reduceAdd, Nat.reduceLeDiff, numR, memR, valR, heapR, updR, intR, decR, extR, slR, segR, thenR, pnR, Int.reduceToNat, Int.reduceAdd, Int.reduceSub, Int.reduceLT, Int.reduceLE, Nat.reduceSub, Nat.reduceMul, Nat.reduceEqDiff, d1, d2, cond_true, cond_false]
    exact okX.is) ?_
  refine postX.is (bif X then .agg [.map (some my)].toArray else undef) (fun v w1 hR hd => by
    obtain ⟨d1, -⟩ := hd; simp only [d1, cond_true, cond_false]
    have e := hR.at h9 (by simp)
    cases X <;> simp (disch := first | assumption | omega | (simp only [szR, tgC_len, tgC_all, tsC_len, tsC_all, spC_len] <;> omega) | rfl | decide) only [gen0, gen1, gen2, rulesM, litR, bolR, Nat.reduceAdd, Nat.reduceLeDiff, numR, memR, valR, heapR, updR, intR, decR, extR, slR, segR, thenR, pnR, Int.reduceToNat, Int.reduceAdd, Int.reduceSub, Int.reduceLT, Int.reduceLE, Nat.reduceSub, Nat.reduceMul, Nat.reduceEqDiff, d1, e, e1, cond_true, cond_false] <;> exact okX.is) ?_
  refine postX.is (bif X then .int .u64 (z : Int) else undef) (fun v w1 hR hd => by
    obtain ⟨d1, -⟩ := hd; simp only [d1, cond_true, cond_false]
    cases X <;> cases Y <;> simp (disch := first | assumption | omega | (simp only [szR, tgC_len, tgC_all, tsC_len, tsC_all, spC_len] <;> omega) | rfl | decide) only [gen0, gen1, gen2, rulesM, litR, bolR, Nat.reduceAdd, Nat.reduceLeDiff, numR, memR, valR, heapR, updR, intR, decR, extR, slR, segR, thenR, pnR, Int.reduceToNat, Int.reduceAdd, Int.reduceSub, Int.reduceLT, Int.reduceLE, Nat.reduceSub, Nat.reduceMul, Nat.reduceEqDiff, d1, cond_true, cond_false, Bool.or_true, Bool.true_or, Bool.or_false, Bool.false_or, Bool.and_true, Bool.and_false, Bool.true_and, Bool.false_and, Bool.not_true, Bool.not_false, beq_self_eq_true, if_true, if_false, Bool.false_eq_true] <;> exact okX.is) ?_
  refine postX.is (bif X then .bool Y else undef) (fun v w1 hR hd => by
    obtain ⟨d1, d2, d3, -⟩ := hd; simp only [d1, d2, d3, cond_true, cond_false]
    cases X <;> simp (disch := first | assumption | omega | (simp only [szR, tgC_len, tgC_all, tsC_len, tsC_all, spC_len] <;> omega) | rfl | decide) only [gen0, gen1, gen2, rulesM, litR, bolR, Nat.reduceAdd, Nat.reduceLeDiff, numR, memR, valR, heapR, updR, intR, decR, extR, slR, segR, thenR, pnR, Int.reduceToNat, Int.reduceAdd, Int.reduceSub, Int.reduceLT, Int.reduceLE, Nat.reduceSub, Nat.reduceMul, Nat.reduceEqDiff, d1, d2, d3, cond_true, cond_false] <;> first | (with_reducible refine has_spec (hy.ext0 hR) ha ?_; exact fun w2 hx => okX.mk hx (congrArg Value.bool (hY))) | exact okX.is) ?_
  refine postX.is (bif X then .bool (!Y) else undef) (fun v w1 hR hd => by
    obtain ⟨d1, d2, -⟩ := hd; simp only [d1, d2, cond_true, cond_false]
    cases X <;> cases Y <;> simp (disch := first | assumption | omega | (simp only [szR, tgC_len, tgC_all, tsC_len, tsC_all, spC_len] <;> omega) | rfl | decide) only [gen0, gen1, gen2, rulesM, litR, bolR, Nat.reduceAdd, Nat.reduceLeDiff, numR, memR, valR, heapR, updR, intR, decR, extR, slR, segR, thenR, pnR, Int.reduceToNat, Int.reduceAdd, Int.reduceSub, Int.reduceLT, Int.reduceLE, Nat.reduceSub, Nat.reduceMul, Nat.reduceEqDiff, d1, d2, cond_true, cond_false, Bool.or_true, Bool.true_or, Bool.or_false, Bool.false_or, Bool.and_true, Bool.and_false, Bool.true_and, Bool.false_and, Bool.not_true, Bool.not_false, beq_self_eq_true, if_true, if_false, Bool.false_eq_true] <;> exact okX.is) ?_
  refine postX.is (.bool (X && !Y)) (fun v w1 hR hd => by
    obtain ⟨d1, d2, d3, -⟩ := hd; simp only [d1, d2, d3, cond_true, cond_false]
    cases X <;> cases Y <;> simp (disch := first | assumption | omega | (simp only [szR, tgC_len, tgC_all, tsC_len, tsC_all, spC_len] <;> omega) | rfl | decide) only [gen0, gen1, gen2, rulesM, litR, bolR, Nat.reduceAdd, Nat.reduceLeDiff, numR, memR, valR, heapR, updR, intR, decR, extR, slR, segR, thenR, pnR, Int.reduceToNat, Int.reduceAdd, Int.reduceSub, Int.reduceLT, Int.reduceLE, Nat.reduceSub, Nat.reduceMul, Nat.reduceEqDiff, d1, d2, d3, cond_true, cond_false, Bool.or_true, Bool.true_or, Bool.or_false, Bool.false_or, Bool.and_true, Bool.and_false, Bool.true_and, Bool.false_and, Bool.not_true, Bool.not_false, beq_self_eq_true, if_true, if_false, Bool.false_eq_true] <;> exact okX.is) ?_
  refine postX.is (.bool false) (fun v w1 hR hd => by
    obtain ⟨d1, d2, d3, -⟩ := hd; simp only [d1, d2, d3, cond_true, cond_false]
    cases X <;> cases Y <;> simp (disch := first | assumption | omega | (simp only [szR, tgC_len, tgC_all, tsC_len, tsC_all, spC_len] <;> omega) | rfl | decide) only [gen0, gen1, gen2, rulesM, litR, bolR, Nat.reduceAdd, Nat.reduceLeDiff, numR, memR, valR, heapR, updR, intR, decR, extR, slR, segR, thenR, pnR, Int.reduceToNat, Int.reduceAdd, Int.reduceSub, Int.reduceLT, Int.reduceLE, Nat.reduceSub, Nat.reduceMul, Nat.reduceEqDiff, d1, d2, d3, cond_true, cond_false, Bool.or_true, Bool.true_or, Bool.or_false, Bool.false_or, Bool.and_true, Bool.and_false, Bool.true_and, Bool.false_and, Bool.not_true, Bool.not_false, beq_self_eq_true, if_true, if_false, Bool.false_eq_true] <;> exact okX.is) ?_
  refine postX.is (.bool false) (fun v w1 hR hd => by
    obtain ⟨d1, d2, -⟩ := hd; simp only [d1, d2, cond_true, cond_false]
    simp (disch := first | assumption | omega | (simp only [szR, tgC_len, tgC_all, tsC_len, tsC_all, spC_len] <;> omega) | rfl | decide) only [gen0, gen1, gen2, rulesM, litR, bolR, Nat.reduceAdd, Nat.reduceLeDiff, numR, memR, valR, heapR, updR, intR, decR, extR, slR, segR, thenR, pnR, Int.reduceToNat, Int.reduceAdd, Int.reduceSub, Int.reduceLT, Int.reduceLE, Nat.reduceSub, Nat.reduceMul, Nat.reduceEqDiff, d1, d2, cond_true, cond_false]
    exact okX.is) ?_
  intro v w1 hR hd _
  have hl := hd
  simp only [and_true] at hl
  have e57 : v 57 = .bool false := hl.2.2.2.2.2.2.2.2.2.2.2.2.2.2.2.2.2.2.2.2.2.2.2.2.2.2
  rw [e57]
  exact hJ w1 hR
theorem Bm.ne {w : World} {m b : Nat} {B : Nat → Bool} {l : List Value} {t : TypeId} {f : Nat × Nat} (h : Bm w (some m) B) (hb : w.heap[b]? = some (.cells l.toArray t f)) : m ≠ b := by
  rintro rfl
  obtain ⟨l0, ⟨⟨es, c, h2, _⟩, _⟩, _⟩ := h
  rw [hb] at h2
  cases h2
set_option maxHeartbeats 600000 in
theorem paint_region {w : World} {p q : Nat × Nat} (hp : spOk p) (hq : spOk q) {b7 b3 b4 : Nat} (h7 : w.heap[b7]? = some (.cells [.map none].toArray 50 (0, 0))) (h3 : w.heap[b3]? = some (.cells (spC p).toArray 47 (0, 0))) (h4 : w.heap[b4]? = some (.cells (spC q).toArray 47 (0, 0)))
    {v7 v3 v4 : Value} (e7 : v7 = .pointer (some ⟨b7, 0, none⟩)) (e3 : v3 = .pointer (some ⟨b3, 0, none⟩)) (e4 : v4 = .pointer (some ⟨b4, 0, none⟩)) {J0 : List Value → World → Prop}
    (hJ : ∀ b8 b9 mx my w', w'.heap[b8]? = some (.cells [.map (some mx)].toArray 50 (0, 0)) → w'.heap[b9]? = some (.cells [.map (some my)].toArray 50 (0, 0)) → Bm w' (some mx) (sp p) → Bm w' (some my) (sp q) → Ext [] w w' → J0 [.pointer (some ⟨b8, 0, none⟩), .pointer (some ⟨b9, 0, none⟩)] w') : (drewK (fun w =>
  relX fun R9 =>
  postX R9 (fun p9_14 => allX R9 w fun v9 w => True → kV Try.prog (Instr.loadAt 50 v7) w (okX R9 w p9_14)) fun p9_14 =>
  postX R9 (fun p9_15 => allX R9 w fun v9 w => True → kV Try.prog (Instr.loadAt 47 v3) w (okX R9 w p9_15)) fun p9_15 =>
  postX R9 (fun p9_16 => allX R9 w fun v9 w => p9_15 (v9 15) w ∧ True → kV Try.prog (Instr.buildSlice 55 1 #[(0, (v9 15))]) w (okX R9 w p9_16)) fun p9_16 =>
  postX R9 (fun p9_17 => allX R9 w fun v9 w => p9_14 (v9 14) w ∧ p9_16 (v9 16) w ∧ True → kN Try.prog (callN (.func (.func 18) #[] #[]) #[(v9 14), (v9 16)]) w (okX R9 w p9_17)) fun p9_17 =>
  postX R9 (fun p9_18 => allX R9 w fun v9 w => True → kV Try.prog (Instr.loadAt 50 v7) w (okX R9 w p9_18)) fun p9_18 =>
  postX R9 (fun p9_19 => allX R9 w fun v9 w => True → kV Try.prog (Instr.loadAt 47 v4) w (okX R9 w p9_19)) fun p9_19 =>
  postX R9 (fun p9_20 => allX R9 w fun v9 w => p9_19 (v9 19) w ∧ True → kV Try.prog (Instr.buildSlice 55 1 #[(0, (v9 19))]) w (okX R9 w p9_20)) fun p9_20 =>
  postX R9 (fun p9_21 => allX R9 w fun v9 w => p9_17 (v9 17) w ∧ p9_18 (v9 18) w ∧ p9_20 (v9 20) w ∧ True → kN Try.prog (callN (.func (.func 18) #[] #[]) #[(v9 18), (v9 20)]) w (okX R9 w p9_21)) fun p9_21 =>
  postX R9 (fun p9_8 => allX R9 w fun v9 w => True → kV Try.prog (Instr.alloc 50 true (.tuple #[])) w (okX R9 w p9_8)) fun p9_8 =>
  postX R9 (fun p9_9 => allX R9 w fun v9 w => True → kV Try.prog (Instr.alloc 50 true (.tuple #[])) w (okX R9 w p9_9)) fun p9_9 =>
  allX R9 w fun v9 w => p9_14 (v9 14) w ∧ p9_15 (v9 15) w ∧ p9_16 (v9 16) w ∧ p9_17 (v9 17) w ∧ p9_18 (v9 18) w ∧ p9_19 (v9 19) w ∧ p9_20 (v9 20) w ∧ p9_21 (v9 21) w ∧ p9_8 (v9 8) w ∧ p9_9 (v9 9) w ∧ True → xDist v9 [8, 9] →
  kU Try.prog (Instr.storeAt 50 (v9 8) (v9 17)) w fun _ w =>
  kU Try.prog (Instr.storeAt 50 (v9 9) (v9 21)) w fun _ w =>
  J0 [(v9 8), (v9 9)] w) w) := by
  subst e7 e3 e4
  have e1 : ∀ x : Value, sub [x] 0 1 = [x] := fun _ => rfl
  have e1b : ∀ x y : Value, splice [x] 0 [y] = [y] := fun _ _ => rfl
  have e2 : ∀ s : Nat × Nat, sub (spC s) 0 2 = spC s := fun _ => rfl
  have e3 : ∀ s : Nat × Nat, (spC s).length = 2 := fun _ => rfl
  rw [drewK_eq]
  have hd0 : Ext [] w w.drew := by (repeat first | assumption | exact Ext.refl | apply Ext.alloc | apply Ext.drew | (refine Ext.updN ?_ ?_; (focus first | omega | (simp only [szR] <;> omega))) | (refine Ext.updI ?_ ?_; (focus (simp; done))))
  replace hJ : ∀ b8 b9 mx my w', w'.heap[b8]? = some (.cells [.map (some mx)].toArray 50 (0, 0)) → w'.heap[b9]? = some (.cells [.map (some my)].toArray 50 (0, 0)) → Bm w' (some mx) (sp p) → Bm w' (some my) (sp q) → Ext [] w.drew w' → J0 [.pointer (some ⟨b8, 0, none⟩), .pointer (some ⟨b9, 0, none⟩)] w' := fun b8 b9 mx my w' a b c d h => hJ b8 b9 mx my w' a b c d (hd0.trans h (by simp))
  replace h7 := hd0.at h7 (by simp)
  replace h3 := hd0.at h3 (by simp)
  replace h4 := hd0.at h4 (by simp)
  clear hd0
  generalize w.drew = w at *
  refine relX.ext [] ?_
  refine postX.is (.agg [.map none].toArray) (fun v w1 hR hd => by
    clear hd
    have e := hR.at h7 (by simp)
    simp (disch := first | assumption | omega | (simp only [szR, tgC_len, tgC_all, tsC_len, tsC_all, spC_len] <;> omega) | rfl | decide) only [gen0, gen1, gen2, rulesM, litR, bolR, Nat.reduceAdd, Nat.reduceLeDiff, numR, memR, valR, heapR, updR, intR, decR, extR, slR, segR, thenR, pnR, Int.reduceToNat, Int.reduceAdd, Int.reduceSub, Int.reduceLT, Int.reduceLE, Nat.reduceSub, Nat.reduceMul, Nat.reduceEqDiff, e, e1]
    exact okX.is) ?_
  refine postX.is (.agg (spC p).toArray) (fun v w1 hR hd => by
    clear hd
    have e := hR.at h3 (by simp)
    simp (disch := first | assumption | omega | (simp only [szR, tgC_len, tgC_all, tsC_len, tsC_all, spC_len] <;> omega) | rfl | decide) only [gen0, gen1, gen2, rulesM, litR, bolR, Nat.reduceAdd, Nat.reduceLeDiff, numR, memR, valR, heapR, updR, intR, decR, extR, slR, segR, thenR, pnR, Int.reduceToNat, Int.reduceAdd, Int.reduceSub, Int.reduceLT, Int.reduceLE, Nat.reduceSub, Nat.reduceMul, Nat.reduceEqDiff, e, e2, e3]
    exact okX.is) ?_
  refine postX.intro (fun v w1 => ∃ b, v = .slice (some ⟨b, 0, none⟩) 1 1 ∧ w1.heap[b]? = some (.cells (spC p).toArray 47 (0, 0))) (fun v a b hR ⟨x, h1, h2⟩ => ⟨x, h1, hR.at h2 (by simp)⟩) (fun v w1 hR hd => by
    obtain ⟨d1, -⟩ := hd
    simp (disch := first | assumption | omega | (simp only [szR, tgC_len, tgC_all, tsC_len, tsC_all, spC_len] <;> omega) | rfl | decide) only [gen0, gen1, gen2, rulesM, litR, bolR, Nat.reduceAdd, Nat.reduceLeDiff, numR, memR, valR, heapR, updR, intR, decR, extR, slR, segR, thenR, pnR, Int.reduceToNat, Int.reduceAdd, Int.reduceSub, Int.reduceLT, Int.reduceLE, Nat.reduceSub, Nat.reduceMul, Nat.reduceEqDiff, d1, e3]
    refine okX.mk (by (repeat first | assumption | exact Ext.refl | apply Ext.alloc | apply Ext.drew | (refine Ext.updN ?_ ?_; (focus first | omega | (simp only [szR] <;> omega))) | (refine Ext.updI ?_ ?_; (focus (simp; done))))) ?_
    exact ⟨_, rfl, (by first | with_reducible rfl | assumption | (simp (disch := first | assumption | omega | (simp only [szR, tgC_len, tgC_all, tsC_len, tsC_all, spC_len] <;> omega) | rfl | decide) only [gen0, gen1, gen2, rulesM, litR, bolR, Nat.reduceAdd, Nat.reduceLeDiff, numR, memR, valR, heapR, updR, intR, decR, extR, slR, segR, thenR, pnR, Int.reduceToNat, Int.reduceAdd, Int.reduceSub, Int.reduceLT, Int.reduceLE, Nat.reduceSub, Nat.reduceMul, Nat.reduceEqDiff] <;> rfl))⟩) ?_
  refine postX.intro (fun v w1 => ∃ m, v = .agg [.map (some m)].toArray ∧ Bm w1 (some m) (sp p)) (fun v a b hR ⟨x, h1, h2⟩ => ⟨x, h1, h2.ext0 hR⟩) (fun v w1 hR hd => by
    obtain ⟨d1, ⟨b, d2, d3⟩, -⟩ := hd
    rw [d1, d2]
    simp (disch := first | assumption | omega | (simp only [szR, tgC_len, tgC_all, tsC_len, tsC_all, spC_len] <;> omega) | rfl | decide) only [gen0, gen1, gen2, rulesM, litR, bolR, Nat.reduceAdd, Nat.reduceLeDiff, numR, memR, valR, heapR, updR, intR, decR, extR, slR, segR, thenR, pnR, Int.reduceToNat, Int.reduceAdd, Int.reduceSub, Int.reduceLT, Int.reduceLE, Nat.reduceSub, Nat.reduceMul, Nat.reduceEqDiff]
    refine paint_spec (l := [p]) (bm_none _) (RowsAt.one d3 rfl) (by simpa using hp) fun m w2 hB hx => okX.mk hx ⟨m, rfl, ?_⟩
    rw [← or_zero]
    exact hB) ?_
  refine postX.is (.agg [.map none].toArray) (fun v w1 hR hd => by
    clear hd
    have e := hR.at h7 (by simp)
    simp (disch := first | assumption | omega | (simp only [szR, tgC_len, tgC_all, tsC_len, tsC_all, spC_len] <;> omega) | rfl | decide) only [gen0, gen1, gen2, rulesM, litR, bolR, Nat.reduceAdd, Nat.reduceLeDiff, numR, memR, valR, heapR, updR, intR, decR, extR, slR, segR, thenR, pnR, Int.reduceToNat, Int.reduceAdd, Int.reduceSub, Int.reduceLT, Int.reduceLE, Nat.reduceSub, Nat.reduceMul, Nat.reduceEqDiff, e, e1]
    exact okX.is) ?_
  refine postX.is (.agg (spC q).toArray) (fun v w1 hR hd => by
    clear hd
    have e := hR.at h4 (by simp)
    simp (disch := first | assumption | omega | (simp only [szR, tgC_len, tgC_all, tsC_len, tsC_all, spC_len] <;> omega) | rfl | decide) only [gen0, gen1, gen2, rulesM, litR, bolR, Nat.reduceAdd, Nat.reduceLeDiff, numR, memR, valR, heapR, updR, intR, decR, extR, slR, segR, thenR, pnR, Int.reduceToNat, Int.reduceAdd, Int.reduceSub, Int.reduceLT, Int.reduceLE, Nat.reduceSub, Nat.reduceMul, Nat.reduceEqDiff, e, e2, e3]
    exact okX.is) ?_
  refine postX.intro (fun v w1 => ∃ b, v = .slice (some ⟨b, 0, none⟩) 1 1 ∧ w1.heap[b]? = some (.cells (spC q).toArray 47 (0, 0))) (fun v a b hR ⟨x, h1, h2⟩ => ⟨x, h1, hR.at h2 (by simp)⟩) (fun v w1 hR hd => by
    obtain ⟨d1, -⟩ := hd
    simp (disch := first | assumption | omega | (simp only [szR, tgC_len, tgC_all, tsC_len, tsC_all, spC_len] <;> omega) | rfl | decide) only [gen0, gen1, gen2, rulesM, litR, bolR, Nat.reduceAdd, Nat.reduceLeDiff, numR, memR, valR, heapR, updR, intR, decR, extR, slR, segR, thenR, pnR, Int.reduceToNat, Int.reduceAdd, Int.reduceSub, Int.reduceLT, Int.reduceLE, Nat.reduceSub, Nat.reduceMul, Nat.reduceEqDiff, d1, e3]
    refine okX.mk (by (repeat first | assumption | exact Ext.refl | apply Ext.alloc | apply Ext.drew | (refine Ext.updN ?_ ?_; (focus first | omega | (simp only [szR] <;> omega))) | (refine Ext.updI ?_ ?_; (focus (simp; done))))) ?_
    exact ⟨_, rfl, (by first | with_reducible rfl | assumption | (simp (disch := first | assumption | omega | (simp only [szR, tgC_len, tgC_all, tsC_len, tsC_all, spC_len] <;> omega) | rfl | decide) only [gen0, gen1, gen2, rulesM, litR, bolR, Nat.reduceAdd, Nat.reduceLeDiff, numR, memR, valR, heapR, updR, intR, decR, extR, slR, segR, thenR, pnR, Int.reduceToNat, Int.reduceAdd, Int.reduceSub, Int.reduceLT, Int.reduceLE, Nat.reduceSub, Nat.reduceMul, Nat.reduceEqDiff] <;> rfl))⟩) ?_
  refine postX.intro (fun v w1 => ∃ m, v = .agg [.map (some m)].toArray ∧ Bm w1 (some m) (sp q)) (fun v a b hR ⟨x, h1, h2⟩ => ⟨x, h1, h2.ext0 hR⟩) (fun v w1 hR hd => by
    obtain ⟨d0, d1, ⟨b, d2, d3⟩, -⟩ := hd
    rw [d1, d2]
    simp (disch := first | assumption | omega | (simp only [szR, tgC_len, tgC_all, tsC_len, tsC_all, spC_len] <;> omega) | rfl | decide) only [gen0, gen1, gen2, rulesM, litR, bolR, Nat.reduceAdd, Nat.reduceLeDiff, numR, memR, valR, heapR, updR, intR, decR, extR, slR, segR, thenR, pnR, Int.reduceToNat, Int.reduceAdd, Int.reduceSub, Int.reduceLT, Int.reduceLE, Nat.reduceSub, Nat.reduceMul, Nat.reduceEqDiff]
    refine paint_spec (l := [q]) (bm_none _) (RowsAt.one d3 rfl) (by simpa using hq) fun m w2 hB hx => okX.mk hx ⟨m, rfl, ?_⟩
    rw [← or_zero]
    exact hB) ?_
  refine postX.intro (fun v w1 => ∃ b, v = .pointer (some ⟨b, 0, none⟩) ∧ w.heap.size ≤ b ∧ w1.heap[b]? = some (.cells [.map none].toArray 50 (0, 0))) (fun v a b hR ⟨x, h1, h2, h3⟩ => ⟨x, h1, h2, hR.at h3 (by simp)⟩) (fun v w1 hR hd => by
    have hs := hR.size
    simp (disch := first | assumption | omega | (simp only [szR, tgC_len, tgC_all, tsC_len, tsC_all, spC_len] <;> omega) | rfl | decide) only [gen0, gen1, gen2, rulesM, litR, bolR, Nat.reduceAdd, Nat.reduceLeDiff, numR, memR, valR, heapR, updR, intR, decR, extR, slR, segR, thenR, pnR, Int.reduceToNat, Int.reduceAdd, Int.reduceSub, Int.reduceLT, Int.reduceLE, Nat.reduceSub, Nat.reduceMul, Nat.reduceEqDiff]
    exact okX.mk (by (repeat first | assumption | exact Ext.refl | apply Ext.alloc | apply Ext.drew | (refine Ext.updN ?_ ?_; (focus first | omega | (simp only [szR] <;> omega))) | (refine Ext.updI ?_ ?_; (focus (simp; done))))) ⟨_, rfl, hs, (by first | with_reducible rfl | assumption | (simp (disch := first | assumption | omega | (simp only [szR, tgC_len, tgC_all, tsC_len, tsC_all, spC_len] <;> omega) | rfl | decide) only [gen0, gen1, gen2, rulesM, litR, bolR, Nat.reduceAdd, Nat.reduceLeDiff, numR, memR, valR, heapR, updR, intR, decR, extR, slR, segR, thenR, pnR, Int.reduceToNat, Int.reduceAdd, Int.reduceSub, Int.reduceLT, Int.reduceLE, Nat.reduceSub, Nat.reduceMul, Nat.reduceEqDiff] <;> rfl))⟩) ?_
  refine postX.intro (fun v w1 => ∃ b, v = .pointer (some ⟨b, 0, none⟩) ∧ w.heap.size ≤ b ∧ w1.heap[b]? = some (.cells [.map none].toArray 50 (0, 0))) (fun v a b hR ⟨x, h1, h2, h3⟩ => ⟨x, h1, h2, hR.at h3 (by simp)⟩) (fun v w1 hR hd => by
    have hs := hR.size
    simp (disch := first | assumption | omega | (simp only [szR, tgC_len, tgC_all, tsC_len, tsC_all, spC_len] <;> omega) | rfl | decide) only [gen0, gen1, gen2, rulesM, litR, bolR, Nat.reduceAdd, Nat.reduceLeDiff, numR, memR, valR, heapR, updR, intR, decR, extR, slR, segR, thenR, pnR, Int.reduceToNat, Int.reduceAdd, Int.reduceSub, Int.reduceLT, Int.reduceLE, Nat.reduceSub, Nat.reduceMul, Nat.reduceEqDiff]
    exact okX.mk (by (repeat first | assumption | exact Ext.refl | apply Ext.alloc | apply Ext.drew | (refine Ext.updN ?_ ?_; (focus first | omega | (simp only [szR] <;> omega))) | (refine Ext.updI ?_ ?_; (focus (simp; done))))) ⟨_, rfl, hs, (by first | with_reducible rfl | assumption | (simp (disch := first | assumption | omega | (simp only [szR, tgC_len, tgC_all, tsC_len, tsC_all, spC_len] <;> omega) | rfl | decide) only [gen0, gen1, gen2, rulesM, litR, bolR, Nat.reduceAdd, Nat.reduceLeDiff, numR, memR, valR, heapR, updR, intR, decR, extR, slR, segR, thenR, pnR, Int.reduceToNat, Int.reduceAdd, Int.reduceSub, Int.reduceLT, Int.reduceLE, Nat.reduceSub, Nat.reduceMul, Nat.reduceEqDiff] <;> rfl))⟩) ?_
  intro v w1 hR hd hdist
  obtain ⟨-, -, -, ⟨mx, f17, g17⟩, -, -, -, ⟨my, f21, g21⟩, ⟨b8, f8, l8, k8⟩, ⟨b9, f9, l9, k9⟩, -⟩ := hd
  have hne : b8 ≠ b9 := by
    have : v 8 ≠ v 9 := by simpa [xDist] using hdist
    rintro rfl
    exact this (f8.trans f9.symm)
  rw [f8, f17, f9, f21]
  have hlt8 := lt_of_at k8
  have hlt9 := lt_of_at k9
  have hx1 : Ext [b8] w1 (World.upd w1 b8 [.map (some mx)]) := by (repeat first | assumption | exact Ext.refl | apply Ext.alloc | apply Ext.drew | (refine Ext.updN ?_ ?_; (focus first | omega | (simp only [szR] <;> omega))) | (refine Ext.updI ?_ ?_; (focus (simp; done))))
  have hx2 : Ext [b9] (World.upd w1 b8 [.map (some mx)]) (World.upd (World.upd w1 b8 [.map (some mx)]) b9 [.map (some my)]) := by (repeat first | assumption | exact Ext.refl | apply Ext.alloc | apply Ext.drew | (refine Ext.updN ?_ ?_; (focus first | omega | (simp only [szR] <;> omega))) | (refine Ext.updI ?_ ?_; (focus (simp; done))))
  have hx3 : Ext [b8, b9] w1 (World.upd (World.upd w1 b8 [.map (some mx)]) b9 [.map (some my)]) := (hx1.mono (by simp)).trans hx2 (by simp)
  have hx4 : Ext [] w (World.upd (World.upd w1 b8 [.map (some mx)]) b9 [.map (some my)]) := hR.trans hx3 (by intro k hk; rcases List.mem_cons.1 hk with rfl | hk; exact .inr l8; simp at hk; subst hk; exact .inr l9)
  have k9' := hx1.at k9 (by simpa using Ne.symm hne)
  have k8' := hx2.at (upd_at (l := [.map (some mx)]) k8) (by simpa using hne)
  have n1 := g17.ne k8
  have n2 := g17.ne k9
  have n3 := g21.ne k8
  have n4 := g21.ne k9
  simp (disch := first | assumption | omega | (simp only [szR, tgC_len, tgC_all, tsC_len, tsC_all, spC_len] <;> omega) | rfl | decide) only [gen0, gen1, gen2, rulesM, litR, bolR, Nat.reduceAdd, Nat.reduceLeDiff, numR, memR, valR, heapR, updR, intR, decR, extR, slR, segR, thenR, pnR, Int.reduceToNat, Int.reduceAdd, Int.reduceSub, Int.reduceLT, Int.reduceLE, Nat.reduceSub, Nat.reduceMul, Nat.reduceEqDiff, k8, k9', e1b]
  exact hJ b8 b9 mx my _ k8' (upd_at k9') (g17.ext hx3 fun m' e => by cases e; simp [n1, n2]) (g21.ext hx3 fun m' e => by cases e; simp [n3, n4]) hx4
theorem count_region {w : World} {A O : Nat → Bool} {N : Nat} (hN2 : 256 * N < 4611686018427387904) (hA : ∀ g, 256 * N ≤ g → A g = false) (hO : ∀ g, 256 * N ≤ g → O g = false) {b8 b9 b11 mx mo : Nat} (h8 : w.heap[b8]? = some (.cells [.map (some mx)].toArray 50 (0, 0))) (h11 : w.heap[b11]? = some (.cells [.map (some mo)].toArray 50 (0, 0)))
    (hx : Bm w (some mx) A) (ho : Bm w (some mo) O) {v11 : Value} {s0 : List Value} (e11 : v11 = .pointer (some ⟨b11, 0, none⟩)) (es : s0 = [.pointer (some ⟨b8, 0, none⟩), .pointer (some ⟨b9, 0, none⟩)])
    {J4 : List Value → World → Prop} (hJ : ∀ w', Ext [] w w' → J4 [.int .i64 ((cnt A (256 * N) : Nat) - (cnt O (256 * N) : Nat) : Int)] w') : (drewK (fun w =>
  relX fun R7 =>
  postX R7 (fun p7_62 => allX R7 w fun v7 w => True → kV Try.prog (Instr.loadAt 50 (s0.getD 0 undef)) w (okX R7 w p7_62)) fun p7_62 =>
  postX R7 (fun p7_63 => allX R7 w fun v7 w => p7_62 (v7 62) w ∧ True → kN Try.prog (callN (.func (.func 21) #[] #[]) #[(v7 62)]) w (okX R7 w p7_63)) fun p7_63 =>
  postX R7 (fun p7_64 => allX R7 w fun v7 w => True → kV Try.prog (Instr.loadAt 50 v11) w (okX R7 w p7_64)) fun p7_64 =>
  allX R7 w fun v7 w => p7_62 (v7 62) w ∧ p7_63 (v7 63) w ∧ p7_64 (v7 64) w ∧ True → xDist v7 [] →
  kN Try.prog (callN (.func (.func 21) #[] #[]) #[(v7 64)]) w fun v65 w =>
  kV Try.prog (binV .sub 3 (.tmp 63) (.tmp 65) (v7 63) v65) w fun v66 w =>
  J4 [v66] w) w) := by
  subst e11 es
  have e1 : ∀ x : Value, sub [x] 0 1 = [x] := fun _ => rfl
  rw [drewK_eq]
  have hd0 : Ext [] w w.drew := by (repeat first | assumption | exact Ext.refl | apply Ext.alloc | apply Ext.drew | (refine Ext.updN ?_ ?_; (focus first | omega | (simp only [szR] <;> omega))) | (refine Ext.updI ?_ ?_; (focus (simp; done))))
  replace hJ : ∀ w', Ext [] w.drew w' → J4 [.int .i64 ((cnt A (256 * N) : Nat) - (cnt O (256 * N) : Nat) : Int)] w' := fun w' h => hJ w' (hd0.trans h (by simp))
  replace h8 := hd0.at h8 (by simp)
  replace h11 := hd0.at h11 (by simp)
  replace hx := hx.ext0 hd0
  replace ho := ho.ext0 hd0
  clear hd0
  generalize w.drew = w at *
  have l1 := cnt_le A (256 * N)
  have l2 := cnt_le O (256 * N)
  refine relX.ext [] ?_
  refine postX.is (.agg [.map (some mx)].toArray) (fun v w1 hR hd => by
    clear hd
    have e := hR.at h8 (by simp)
    simp (disch := first | assumption | omega | (simp only [szR, tgC_len, tgC_all, tsC_len, tsC_all, spC_len] <;> omega) | rfl | decide) only [gen0, gen1, gen2, rulesM, litR, bolR, Nat.reduceAdd, Nat.reduceLeDiff, numR, memR, valR, heapR, updR, intR, decR, extR, slR, segR, thenR, pnR, Int.reduceToNat, Int.reduceAdd, Int.reduceSub, Int.reduceLT, Int.reduceLE, Nat.reduceSub, Nat.reduceMul, Nat.reduceEqDiff, e, e1]
    exact okX.is) ?_
  refine postX.is (.int .i64 (cnt A (256 * N) : Nat)) (fun v w1 hR hd => by
    obtain ⟨d1, -⟩ := hd; simp only [d1, cond_true, cond_false]
    simp (disch := first | assumption | omega | (simp only [szR, tgC_len, tgC_all, tsC_len, tsC_all, spC_len] <;> omega) | rfl | decide) only [gen0, gen1, gen2, rulesM, litR, bolR, Nat.reduceAdd, Nat.reduceLeDiff, numR, memR, valR, heapR, updR, intR, decR, extR, slR, segR, thenR, pnR, Int.reduceToNat, Int.reduceAdd, Int.reduceSub, Int.reduceLT, Int.reduceLE, Nat.reduceSub, Nat.reduceMul, Nat.reduceEqDiff, d1, e1]
    exact count_spec (hx.ext0 hR) hA (by omega) fun w2 hx => okX.mk hx rfl) ?_
  refine postX.is (.agg [.map (some mo)].toArray) (fun v w1 hR hd => by
    clear hd
    have e := hR.at h11 (by simp)
    simp (disch := first | assumption | omega | (simp only [szR, tgC_len, tgC_all, tsC_len, tsC_all, spC_len] <;> omega) | rfl | decide) only [gen0, gen1, gen2, rulesM, litR, bolR, Nat.reduceAdd, Nat.reduceLeDiff, numR, memR, valR, heapR, updR, intR, decR, extR, slR, segR, thenR, pnR, Int.reduceToNat, Int.reduceAdd, Int.reduceSub, Int.reduceLT, Int.reduceLE, Nat.reduceSub, Nat.reduceMul, Nat.reduceEqDiff, e, e1]
    exact okX.is) ?_
  intro v w1 hR hd _
  obtain ⟨-, e63, e64, -⟩ := hd
  rw [e63, e64]
  simp (disch := first | assumption | omega | (simp only [szR, tgC_len, tgC_all, tsC_len, tsC_all, spC_len] <;> omega) | rfl | decide) only [gen0, gen1, gen2, rulesM, litR, bolR, Nat.reduceAdd, Nat.reduceLeDiff, numR, memR, valR, heapR, updR, intR, decR, extR, slR, segR, thenR, pnR, Int.reduceToNat, Int.reduceAdd, Int.reduceSub, Int.reduceLT, Int.reduceLE, Nat.reduceSub, Nat.reduceMul, Nat.reduceEqDiff]
  refine count_spec (ho.ext0 hR) hO (by omega) fun w2 hx2 => ?_
  simp (disch := first | assumption | omega | (simp only [szR, tgC_len, tgC_all, tsC_len, tsC_all, spC_len] <;> omega) | rfl | decide) only [gen0, gen1, gen2, rulesM, litR, bolR, Nat.reduceAdd, Nat.reduceLeDiff, numR, memR, valR, heapR, updR, intR, decR, extR, slR, segR, thenR, pnR, Int.reduceToNat, Int.reduceAdd, Int.reduceSub, Int.reduceLT, Int.reduceLE, Nat.reduceSub, Nat.reduceMul, Nat.reduceEqDiff]
  exact hJ w2 (hR.trans hx2 (by simp))
set_option maxHeartbeats 600000 in
theorem last_region {w : World} {A B : Nat → Bool} {q : Nat × Nat} (hq : spOk q) (hBq : B = sp q) {N : Nat} (hN2 : 256 * N < 4611686018427387904) (hA : ∀ g, 256 * N ≤ g → A g = false) (hBN : ∀ g, 256 * N ≤ g → B g = false) {b4 b7 b8 b9 b10 b11 b12 mx my mb mo mt : Nat}
    (h4 : w.heap[b4]? = some (.cells (spC q).toArray 47 (0, 0))) (h7 : w.heap[b7]? = some (.cells [.map none].toArray 50 (0, 0)))
    (h8 : w.heap[b8]? = some (.cells [.map (some mx)].toArray 50 (0, 0))) (h9 : w.heap[b9]? = some (.cells [.map (some my)].toArray 50 (0, 0))) (h10 : w.heap[b10]? = some (.cells [.map (some mb)].toArray 50 (0, 0))) (h11 : w.heap[b11]? = some (.cells [.map (some mo)].toArray 50 (0, 0))) (h12 : w.heap[b12]? = some (.cells [.map (some mt)].toArray 50 (0, 0)))
    (hx : Bm w (some mx) A) (hy : Bm w (some my) B) (hb : Bm w (some mb) fun g => A g || B g) (ho : Bm w (some mo) fun g => A g && !B g) (ht : Bm w (some mt) A)
    {v4 v7 v10 v11 v12 : Value} {s0 : List Value} (f4 : v4 = .pointer (some ⟨b4, 0, none⟩)) (f7 : v7 = .pointer (some ⟨b7, 0, none⟩)) (f10 : v10 = .pointer (some ⟨b10, 0, none⟩)) (f11 : v11 = .pointer (some ⟨b11, 0, none⟩)) (f12 : v12 = .pointer (some ⟨b12, 0, none⟩)) (es : s0 = [.pointer (some ⟨b8, 0, none⟩), .pointer (some ⟨b9, 0, none⟩)])
    {K : Value → World → Prop} (hK : ∀ w', Ext [] w w' → K (.bool true) w') : (fun s4 w => ∀ _ : Nat → Value,
  drewK (fun w =>
  relX fun R6 =>
  postX R6 (fun p6_67 => allX R6 w fun v6 w => True → kV Try.prog (Instr.loadAt 50 v12) w (okX R6 w p6_67)) fun p6_67 =>
  postX R6 (fun p6_68 => allX R6 w fun v6 w => p6_67 (v6 67) w ∧ True → kN Try.prog (callN (.func (.func 21) #[] #[]) #[(v6 67)]) w (okX R6 w p6_68)) fun p6_68 =>
  postX R6 (fun p6_69 => allX R6 w fun v6 w => True → kV Try.prog (Instr.loadAt 50 (s0.getD 0 undef)) w (okX R6 w p6_69)) fun p6_69 =>
  postX R6 (fun p6_70 => allX R6 w fun v6 w => p6_68 (v6 68) w ∧ p6_69 (v6 69) w ∧ True → kN Try.prog (callN (.func (.func 21) #[] #[]) #[(v6 69)]) w (okX R6 w p6_70)) fun p6_70 =>
  postX R6 (fun p6_71 => allX R6 w fun v6 w => p6_68 (v6 68) w ∧ p6_70 (v6 70) w ∧ True → kV Try.prog (binV .eql 3 (.tmp 68) (.tmp 70) (v6 68) (v6 70)) w (okX R6 w p6_71)) fun p6_71 =>
  postX R6 (fun p6_72 => allX R6 w fun v6 w => p6_70 (v6 70) w ∧ p6_71 (v6 71) w ∧ True → (okX R6 w p6_72) (v6 71) w) fun p6_72 =>
  postX R6 (fun p6_73 => allX R6 w fun v6 w => p6_72 (v6 72) w ∧ True → gdK (yb (v6 72)) true (fun k => kV Try.prog (Instr.loadAt 50 v10) w k) w (okX R6 w p6_73)) fun p6_73 =>
  postX R6 (fun p6_74 => allX R6 w fun v6 w => p6_72 (v6 72) w ∧ p6_73 (v6 73) w ∧ True → gdK (yb (v6 72)) true (fun k => kN Try.prog (callN (.func (.func 21) #[] #[]) #[(v6 73)]) w k) w (okX R6 w p6_74)) fun p6_74 =>
  postX R6 (fun p6_75 => allX R6 w fun v6 w => p6_72 (v6 72) w ∧ True → gdK (yb (v6 72)) true (fun k => kV Try.prog (Instr.loadAt 50 (s0.getD 0 undef)) w k) w (okX R6 w p6_75)) fun p6_75 =>
  postX R6 (fun p6_76 => allX R6 w fun v6 w => p6_72 (v6 72) w ∧ p6_74 (v6 74) w ∧ p6_75 (v6 75) w ∧ True → gdK (yb (v6 72)) true (fun k => kN Try.prog (callN (.func (.func 21) #[] #[]) #[(v6 75)]) w k) w (okX R6 w p6_76)) fun p6_76 =>
  postX R6 (fun p6_77 => allX R6 w fun v6 w => p6_72 (v6 72) w ∧ True → gdK (yb (v6 72)) true (fun k => kV Try.prog (Instr.loadAt 50 (s0.getD 1 undef)) w k) w (okX R6 w p6_77)) fun p6_77 =>
  postX R6 (fun p6_78 => allX R6 w fun v6 w => p6_72 (v6 72) w ∧ p6_76 (v6 76) w ∧ p6_77 (v6 77) w ∧ True → gdK (yb (v6 72)) true (fun k => kN Try.prog (callN (.func (.func 21) #[] #[]) #[(v6 77)]) w k) w (okX R6 w p6_78)) fun p6_78 =>
  postX R6 (fun p6_79 => allX R6 w fun v6 w => p6_72 (v6 72) w ∧ p6_76 (v6 76) w ∧ p6_78 (v6 78) w ∧ True → gdK (yb (v6 72)) true (fun k => kV Try.prog (binV .add 3 (.tmp 76) (.tmp 78) (v6 76) (v6 78)) w k) w (okX R6 w p6_79)) fun p6_79 =>
  postX R6 (fun p6_80 => allX R6 w fun v6 w => p6_72 (v6 72) w ∧ True → gdK (yb (v6 72)) true (fun k => k (s4.getD 0 undef) w) w (okX R6 w p6_80)) fun p6_80 =>
  postX R6 (fun p6_81 => allX R6 w fun v6 w => p6_72 (v6 72) w ∧ p6_79 (v6 79) w ∧ p6_80 (v6 80) w ∧ True → gdK (yb (v6 72)) true (fun k => kV Try.prog (binV .sub 3 (.tmp 79) (.tmp 80) (v6 79) (v6 80)) w k) w (okX R6 w p6_81)) fun p6_81 =>
  postX R6 (fun p6_82 => allX R6 w fun v6 w => p6_72 (v6 72) w ∧ p6_74 (v6 74) w ∧ p6_81 (v6 81) w ∧ True → gdK (yb (v6 72)) true (fun k => kV Try.prog (binV .eql 3 (.tmp 74) (.tmp 81) (v6 74) (v6 81)) w k) w (okX R6 w p6_82)) fun p6_82 =>
  postX R6 (fun p6_83 => allX R6 w fun v6 w => p6_72 (v6 72) w ∧ p6_82 (v6 82) w ∧ True → kN Try.prog (pickN (v6 72) (v6 82) (.bool false)) w (okX R6 w p6_83)) fun p6_83 =>
  postX R6 (fun p6_84 => allX R6 w fun v6 w => p6_78 (v6 78) w ∧ p6_83 (v6 83) w ∧ True → (okX R6 w p6_84) (v6 83) w) fun p6_84 =>
  postX R6 (fun p6_85 => allX R6 w fun v6 w => p6_84 (v6 84) w ∧ True → gdK (yb (v6 84)) true (fun k => kV Try.prog (Instr.loadAt 50 v11) w k) w (okX R6 w p6_85)) fun p6_85 =>
  postX R6 (fun p6_86 => allX R6 w fun v6 w => p6_84 (v6 84) w ∧ True → gdK (yb (v6 84)) true (fun k => kV Try.prog (Instr.loadAt 47 v4) w k) w (okX R6 w p6_86)) fun p6_86 =>
  postX R6 (fun p6_87 => allX R6 w fun v6 w => p6_84 (v6 84) w ∧ p6_86 (v6 86) w ∧ True → gdK (yb (v6 84)) true (fun k => kV Try.prog (Instr.buildSlice 55 1 #[(0, (v6 86))]) w k) w (okX R6 w p6_87)) fun p6_87 =>
  postX R6 (fun p6_88 => allX R6 w fun v6 w => p6_84 (v6 84) w ∧ p6_85 (v6 85) w ∧ p6_87 (v6 87) w ∧ True → gdK (yb (v6 84)) true (fun k => kN Try.prog (callN (.func (.func 19) #[] #[]) #[(v6 85), (v6 87)]) w k) w (okX R6 w p6_88)) fun p6_88 =>
  postX R6 (fun p6_89 => allX R6 w fun v6 w => p6_84 (v6 84) w ∧ p6_88 (v6 88) w ∧ True → gdK (yb (v6 84)) true (fun k => kN Try.prog (callN (.func (.func 21) #[] #[]) #[(v6 88)]) w k) w (okX R6 w p6_89)) fun p6_89 =>
  postX R6 (fun p6_90 => allX R6 w fun v6 w => p6_84 (v6 84) w ∧ True → gdK (yb (v6 84)) true (fun k => kV Try.prog (Instr.loadAt 50 v11) w k) w (okX R6 w p6_90)) fun p6_90 =>
  postX R6 (fun p6_91 => allX R6 w fun v6 w => p6_84 (v6 84) w ∧ p6_89 (v6 89) w ∧ p6_90 (v6 90) w ∧ True → gdK (yb (v6 84)) true (fun k => kN Try.prog (callN (.func (.func 21) #[] #[]) #[(v6 90)]) w k) w (okX R6 w p6_91)) fun p6_91 =>
  postX R6 (fun p6_92 => allX R6 w fun v6 w => p6_84 (v6 84) w ∧ p6_89 (v6 89) w ∧ p6_91 (v6 91) w ∧ True → gdK (yb (v6 84)) true (fun k => kV Try.prog (binV .eql 3 (.tmp 89) (.tmp 91) (v6 89) (v6 91)) w k) w (okX R6 w p6_92)) fun p6_92 =>
  postX R6 (fun p6_93 => allX R6 w fun v6 w => p6_84 (v6 84) w ∧ p6_92 (v6 92) w ∧ True → kN Try.prog (pickN (v6 84) (v6 92) (.bool false)) w (okX R6 w p6_93)) fun p6_93 =>
  postX R6 (fun p6_94 => allX R6 w fun v6 w => p6_91 (v6 91) w ∧ p6_93 (v6 93) w ∧ True → (okX R6 w p6_94) (v6 93) w) fun p6_94 =>
  postX R6 (fun p6_95 => allX R6 w fun v6 w => p6_94 (v6 94) w ∧ True → gdK (yb (v6 94)) true (fun k => kV Try.prog (Instr.loadAt 50 v7) w k) w (okX R6 w p6_95)) fun p6_95 =>
  postX R6 (fun p6_96 => allX R6 w fun v6 w => p6_94 (v6 94) w ∧ p6_95 (v6 95) w ∧ True → gdK (yb (v6 94)) true (fun k => kN Try.prog (callN (.func (.func 21) #[] #[]) #[(v6 95)]) w k) w (okX R6 w p6_96)) fun p6_96 =>
  postX R6 (fun p6_97 => allX R6 w fun v6 w => p6_94 (v6 94) w ∧ p6_96 (v6 96) w ∧ True → gdK (yb (v6 94)) true (fun k => kV Try.prog (binV .eql 3 (.tmp 96) (.const (.int .i64 0)) (v6 96) (.int .i64 0)) w k) w (okX R6 w p6_97)) fun p6_97 =>
  postX R6 (fun p6_98 => allX R6 w fun v6 w => p6_94 (v6 94) w ∧ p6_97 (v6 97) w ∧ True → kN Try.prog (pickN (v6 94) (v6 97) (.bool false)) w (okX R6 w p6_98)) fun p6_98 =>
  postX R6 (fun p6_99 => allX R6 w fun v6 w => p6_96 (v6 96) w ∧ p6_98 (v6 98) w ∧ True → (okX R6 w p6_99) (v6 98) w) fun p6_99 =>
  postX R6 (fun p6_100 => allX R6 w fun v6 w => p6_99 (v6 99) w ∧ True → gdK (yb (v6 99)) true (fun k => kN Try.prog (callN (.func (.func 22) #[] #[]) #[]) w k) w (okX R6 w p6_100)) fun p6_100 =>
  postX R6 (fun p6_101 => allX R6 w fun v6 w => p6_99 (v6 99) w ∧ p6_100 (v6 100) w ∧ True → kN Try.prog (pickN (v6 99) (v6 100) (.bool false)) w (okX R6 w p6_101)) fun p6_101 =>
  allX R6 w fun v6 w => p6_67 (v6 67) w ∧ p6_68 (v6 68) w ∧ p6_69 (v6 69) w ∧ p6_70 (v6 70) w ∧ p6_71 (v6 71) w ∧ p6_72 (v6 72) w ∧ p6_73 (v6 73) w ∧ p6_74 (v6 74) w ∧ p6_75 (v6 75) w ∧ p6_76 (v6 76) w ∧ p6_77 (v6 77) w ∧ p6_78 (v6 78) w ∧ p6_79 (v6 79) w ∧ p6_80 (v6 80) w ∧ p6_81 (v6 81) w ∧ p6_82 (v6 82) w ∧ p6_83 (v6 83) w ∧ p6_84 (v6 84) w ∧ p6_85 (v6 85) w ∧ p6_86 (v6 86) w ∧ p6_87 (v6 87) w ∧ p6_88 (v6 88) w ∧ p6_89 (v6 89) w ∧ p6_90 (v6 90) w ∧ p6_91 (v6 91) w ∧ p6_92 (v6 92) w ∧ p6_93 (v6 93) w ∧ p6_94 (v6 94) w ∧ p6_95 (v6 95) w ∧ p6_96 (v6 96) w ∧ p6_97 (v6 97) w ∧ p6_98 (v6 98) w ∧ p6_99 (v6 99) w ∧ p6_100 (v6 100) w ∧ p6_101 (v6 101) w ∧ True → xDist v6 [] →
  K (v6 101) w) w) [.int .i64 ((cnt A (256 * N) : Nat) - (cnt (fun g => A g && !B g) (256 * N) : Nat) : Int)] w := by
  subst f4 f7 f10 f11 f12 es
  intro _
  have e1 : ∀ x : Value, sub [x] 0 1 = [x] := fun _ => rfl
  have e2 : ∀ s : Nat × Nat, sub (spC s) 0 2 = spC s := fun _ => rfl
  have e3 : ∀ s : Nat × Nat, (spC s).length = 2 := fun _ => rfl
  rw [drewK_eq]
  have hd0 : Ext [] w w.drew := by (repeat first | assumption | exact Ext.refl | apply Ext.alloc | apply Ext.drew | (refine Ext.updN ?_ ?_; (focus first | omega | (simp only [szR] <;> omega))) | (refine Ext.updI ?_ ?_; (focus (simp; done))))
  replace hK : ∀ w', Ext [] w.drew w' → K (.bool true) w' := fun w' h => hK w' (hd0.trans h (by simp))
  replace h4 := hd0.at h4 (by simp)
  replace h7 := hd0.at h7 (by simp)
  replace h8 := hd0.at h8 (by simp)
  replace h9 := hd0.at h9 (by simp)
  replace h10 := hd0.at h10 (by simp)
  replace h11 := hd0.at h11 (by simp)
  replace h12 := hd0.at h12 (by simp)
  replace hx := hx.ext0 hd0
  replace hy := hy.ext0 hd0
  replace hb := hb.ext0 hd0
  replace ho := ho.ext0 hd0
  replace ht := ht.ext0 hd0
  clear hd0
  generalize w.drew = w at *
  have hOr : ∀ g, 256 * N ≤ g → (fun g => A g || B g) g = false := fun g hg => by simp [hA g hg, hBN g hg]
  have hO : ∀ g, 256 * N ≤ g → (fun g => A g && !B g) g = false := fun g hg => by simp [hA g hg]
  have l1 := cnt_le A (256 * N)
  have l2 := cnt_le B (256 * N)
  have l3 := cnt_le (fun g => A g && !B g) (256 * N)
  have q1 := cnt_or_and A B (256 * N)
  have q2 := cnt_less_and A B (256 * N)
  have hz : cnt (fun _ => false) (256 * 1) = 0 := cnt_none _ fun _ _ => rfl
  obtain ⟨cA, hcA⟩ : ∃ c, c = cnt A (256 * N) := ⟨_, rfl⟩
  obtain ⟨cB, hcB⟩ : ∃ c, c = cnt B (256 * N) := ⟨_, rfl⟩
  obtain ⟨cO, hcO⟩ : ∃ c, c = cnt (fun g => A g && !B g) (256 * N) := ⟨_, rfl⟩
  obtain ⟨cU, hcU⟩ : ∃ c, c = cnt (fun g => A g || B g) (256 * N) := ⟨_, rfl⟩
  rw [← hcA, ← hcB, ← hcU] at q1
  rw [← hcA, ← hcO] at q2
  rw [← hcA] at l1
  rw [← hcB] at l2
  rw [← hcO] at l3
  have hq3 : (cA : Int) + cB - (cA - cO) = cU := by omega
  have hz0 : cnt (fun _ => false) (256 * N) = 0 := cnt_none _ fun _ _ => rfl
  refine relX.ext [] ?_
  refine postX.is (.agg [.map (some mt)].toArray) (fun v w1 hR hd => by
    clear hd
    have e := hR.at h12 (by simp)
    simp (disch := first | assumption | omega | (simp only [szR, tgC_len, tgC_all, tsC_len, tsC_all, spC_len] <;> omega) | rfl | decide) only [gen0, gen1, gen2, rulesM, litR, bolR, Nat.reduceAdd, Nat.reduceLeDiff, numR, memR, valR, heapR, updR, intR, decR, extR, slR, segR, thenR, pnR, Int.reduceToNat, Int.reduceAdd, Int.reduceSub, Int.reduceLT, Int.reduceLE, Nat.reduceSub, Nat.reduceMul, Nat.reduceEqDiff, e, e1]
    exact okX.is) ?_
  refine postX.is (.int .i64 (cA : Nat)) (fun v w1 hR hd => by
    obtain ⟨d1, -⟩ := hd; simp only [d1, cond_true, cond_false]
    simp (disch := first | assumption | omega | (simp only [szR, tgC_len, tgC_all, tsC_len, tsC_all, spC_len] <;> omega) | rfl | decide) only [gen0, gen1, gen2, rulesM, litR, bolR, Nat.reduceAdd, Nat.reduceLeDiff, numR, memR, valR, heapR, updR, intR, decR, extR, slR, segR, thenR, pnR, Int.reduceToNat, Int.reduceAdd, Int.reduceSub, Int.reduceLT, Int.reduceLE, Nat.reduceSub, Nat.reduceMul, Nat.reduceEqDiff, d1, ]
    exact count_spec (ht.ext0 hR) hA (by omega) fun w2 hx => okX.mk hx (by rw [hcA])) ?_
  refine postX.is (.agg [.map (some mx)].toArray) (fun v w1 hR hd => by
    clear hd
    have e := hR.at h8 (by simp)
    simp (disch := first | assumption | omega | (simp only [szR, tgC_len, tgC_all, tsC_len, tsC_all, spC_len] <;> omega) | rfl | decide) only [gen0, gen1, gen2, rulesM, litR, bolR, Nat.reduceAdd, Nat.reduceLeDiff, numR, memR, valR, heapR, updR, intR, decR, extR, slR, segR, thenR, pnR, Int.reduceToNat, Int.reduceAdd, Int.reduceSub, Int.reduceLT, Int.reduceLE, Nat.reduceSub, Nat.reduceMul, Nat.reduceEqDiff, e, e1]
    exact okX.is) ?_
  refine postX.is (.int .i64 (cA : Nat)) (fun v w1 hR hd => by
    obtain ⟨d1, d2, -⟩ := hd; simp only [d1, d2, cond_true, cond_false]
    simp (disch := first | assumption | omega | (simp only [szR, tgC_len, tgC_all, tsC_len, tsC_all, spC_len] <;> omega) | rfl | decide) only [gen0, gen1, gen2, rulesM, litR, bolR, Nat.reduceAdd, Nat.reduceLeDiff, numR, memR, valR, heapR, updR, intR, decR, extR, slR, segR, thenR, pnR, Int.reduceToNat, Int.reduceAdd, Int.reduceSub, Int.reduceLT, Int.reduceLE, Nat.reduceSub, Nat.reduceMul, Nat.reduceEqDiff, d1, d2, ]
    exact count_spec (hx.ext0 hR) hA (by omega) fun w2 hx => okX.mk hx (by rw [hcA])) ?_
  refine postX.is (.bool true) (fun v w1 hR hd => by
    obtain ⟨d1, d2, -⟩ := hd; simp only [d1, d2, cond_true, cond_false]
    simp (disch := first | assumption | omega | (simp only [szR, tgC_len, tgC_all, tsC_len, tsC_all, spC_len] <;> omega) | rfl | decide) only [gen0, gen1, gen2, rulesM, litR, bolR, Nat.reduceAdd, Nat.reduceLeDiff, numR, memR, valR, heapR, updR, intR, decR, extR, slR, segR, thenR, pnR, Int.reduceToNat, Int.reduceAdd, Int.reduceSub, Int.reduceLT, Int.reduceLE, Nat.reduceSub, Nat.reduceMul, Nat.reduceEqDiff, d1, d2, decide_true]
    exact okX.is) ?_
  refine postX.is (.bool true) (fun v w1 hR hd => by
    obtain ⟨d1, d2, -⟩ := hd; simp only [d1, d2, cond_true, cond_false]
    exact okX.is) ?_
  refine postX.is (.agg [.map (some mb)].toArray) (fun v w1 hR hd => by
    obtain ⟨d1, -⟩ := hd; simp only [d1, cond_true, cond_false]
    have e := hR.at h10 (by simp)
    simp (disch := first | assumption | omega | (simp only [szR, tgC_len, tgC_all, tsC_len, tsC_all, spC_len] <;> omega) | rfl | decide) only [gen0, gen1, gen2, rulesM, litR, bolR, Nat.reduceAdd, Nat.reduceLeDiff, numR, memR, valR, heapR, updR, intR, decR, extR, slR, segR, thenR, pnR, Int.reduceToNat, Int.reduceAdd, Int.reduceSub, Int.reduceLT, Int.reduceLE, Nat.reduceSub, Nat.reduceMul, Nat.reduceEqDiff, d1, e, e1]
    exact okX.is) ?_
  refine postX.is (.int .i64 (cU : Nat)) (fun v w1 hR hd => by
    obtain ⟨d1, d2, -⟩ := hd; simp only [d1, d2, cond_true, cond_false]
    simp (disch := first | assumption | omega | (simp only [szR, tgC_len, tgC_all, tsC_len, tsC_all, spC_len] <;> omega) | rfl | decide) only [gen0, gen1, gen2, rulesM, litR, bolR, Nat.reduceAdd, Nat.reduceLeDiff, numR, memR, valR, heapR, updR, intR, decR, extR, slR, segR, thenR, pnR, Int.reduceToNat, Int.reduceAdd, Int.reduceSub, Int.reduceLT, Int.reduceLE, Nat.reduceSub, Nat.reduceMul, Nat.reduceEqDiff, d1, d2, ]
    exact count_spec (hb.ext0 hR) hOr (by omega) fun w2 hx => okX.mk hx (by rw [hcU])) ?_
  refine postX.is (.agg [.map (some mx)].toArray) (fun v w1 hR hd => by
    obtain ⟨d1, -⟩ := hd; simp only [d1, cond_true, cond_false]
    have e := hR.at h8 (by simp)
    simp (disch := first | assumption | omega | (simp only [szR, tgC_len, tgC_all, tsC_len, tsC_all, spC_len] <;> omega) | rfl | decide) only [gen0, gen1, gen2, rulesM, litR, bolR, Nat.reduceAdd, Nat.reduceLeDiff, numR, memR, valR, heapR, updR, intR, decR, extR, slR, segR, thenR, pnR, Int.reduceToNat, Int.reduceAdd, Int.reduceSub, Int.reduceLT, Int.reduceLE, Nat.reduceSub, Nat.reduceMul, Nat.reduceEqDiff, d1, e, e1]
    exact okX.is) ?_
  refine postX.is (.int .i64 (cA : Nat)) (fun v w1 hR hd => by
    obtain ⟨d1, d2, d3, -⟩ := hd; simp only [d1, d2, d3, cond_true, cond_false]
    simp (disch := first | assumption | omega | (simp only [szR, tgC_len, tgC_all, tsC_len, tsC_all, spC_len] <;> omega) | rfl | decide) only [gen0, gen1, gen2, rulesM, litR, bolR, Nat.reduceAdd, Nat.reduceLeDiff, numR, memR, valR, heapR, updR, intR, decR, extR, slR, segR, thenR, pnR, Int.reduceToNat, Int.reduceAdd, Int.reduceSub, Int.reduceLT, Int.reduceLE, Nat.reduceSub, Nat.reduceMul, Nat.reduceEqDiff, d1, d2, d3, ]
    exact count_spec (hx.ext0 hR) hA (by omega) fun w2 hx => okX.mk hx (by rw [hcA])) ?_
  refine postX.is (.agg [.map (some my)].toArray) (fun v w1 hR hd => by
    obtain ⟨d1, -⟩ := hd; simp only [d1, cond_true, cond_false]
    have e := hR.at h9 (by simp)
    simp (disch := first | assumption | omega | (simp only [szR, tgC_len, tgC_all, tsC_len, tsC_all, spC_len] <;> omega) | rfl | decide) only [gen0, gen1, gen2, rulesM, litR, bolR, Nat.reduceAdd, Nat.reduceLeDiff, numR, memR, valR, heapR, updR, intR, decR, extR, slR, segR, thenR, pnR, Int.reduceToNat, Int.reduceAdd, Int.reduceSub, Int.reduceLT, Int.reduceLE, Nat.reduceSub, Nat.reduceMul, Nat.reduceEqDiff, d1, e, e1]
    exact okX.is) ?_
  refine postX.is (.int .i64 (cB : Nat)) (fun v w1 hR hd => by
    obtain ⟨d1, d2, d3, -⟩ := hd; simp only [d1, d2, d3, cond_true, cond_false]
    simp (disch := first | assumption | omega | (simp only [szR, tgC_len, tgC_all, tsC_len, tsC_all, spC_len] <;> omega) | rfl | decide) only [gen0, gen1, gen2, rulesM, litR, bolR, Nat.reduceAdd, Nat.reduceLeDiff, numR, memR, valR, heapR, updR, intR, decR, extR, slR, segR, thenR, pnR, Int.reduceToNat, Int.reduceAdd, Int.reduceSub, Int.reduceLT, Int.reduceLE, Nat.reduceSub, Nat.reduceMul, Nat.reduceEqDiff, d1, d2, d3, ]
    exact count_spec (hy.ext0 hR) hBN (by omega) fun w2 hx => okX.mk hx (by rw [hcB])) ?_
  refine postX.is (.int .i64 ((cA : Int) + cB)) (fun v w1 hR hd => by
    obtain ⟨d1, d2, d3, -⟩ := hd; simp only [d1, d2, d3, cond_true, cond_false]
    simp (disch := first | assumption | omega | (simp only [szR, tgC_len, tgC_all, tsC_len, tsC_all, spC_len] <;> omega) | rfl | decide) only [gen0, gen1, gen2, rulesM, litR, bolR, Nat.reduceAdd, Nat.reduceLeDiff, numR, memR, valR, heapR, updR, intR, decR, extR, slR, segR, thenR, pnR, Int.reduceToNat, Int.reduceAdd, Int.reduceSub, Int.reduceLT, Int.reduceLE, Nat.reduceSub, Nat.reduceMul, Nat.reduceEqDiff, d1, d2, d3, ]
    exact okX.is) ?_
  refine postX.is (.int .i64 ((cA : Int) - cO)) (fun v w1 hR hd => by
    obtain ⟨d1, -⟩ := hd; simp only [d1, cond_true, cond_false]
    rw [hcA, hcO]
    simp (disch := first | assumption | omega | (simp only [szR, tgC_len, tgC_all, tsC_len, tsC_all, spC_len] <;> omega) | rfl | decide) only [gen0, gen1, gen2, rulesM, litR, bolR, Nat.reduceAdd, Nat.reduceLeDiff, numR, memR, valR, heapR, updR, intR, decR, extR, slR, segR, thenR, pnR, Int.reduceToNat, Int.reduceAdd, Int.reduceSub, Int.reduceLT, Int.reduceLE, Nat.reduceSub, Nat.reduceMul, Nat.reduceEqDiff, d1, ]
    exact okX.is) ?_
  refine postX.is (.int .i64 (cU : Nat)) (fun v w1 hR hd => by
    obtain ⟨d1, d2, d3, -⟩ := hd; simp only [d1, d2, d3, cond_true, cond_false]
    simp (disch := first | assumption | omega | (simp only [szR, tgC_len, tgC_all, tsC_len, tsC_all, spC_len] <;> omega) | rfl | decide) only [gen0, gen1, gen2, rulesM, litR, bolR, Nat.reduceAdd, Nat.reduceLeDiff, numR, memR, valR, heapR, updR, intR, decR, extR, slR, segR, thenR, pnR, Int.reduceToNat, Int.reduceAdd, Int.reduceSub, Int.reduceLT, Int.reduceLE, Nat.reduceSub, Nat.reduceMul, Nat.reduceEqDiff, d1, d2, d3, hq3]
    exact okX.is) ?_
  refine postX.is (.bool true) (fun v w1 hR hd => by
    obtain ⟨d1, d2, d3, -⟩ := hd; simp only [d1, d2, d3, cond_true, cond_false]
    simp (disch := first | assumption | omega | (simp only [szR, tgC_len, tgC_all, tsC_len, tsC_all, spC_len] <;> omega) | rfl | decide) only [gen0, gen1, gen2, rulesM, litR, bolR, Nat.reduceAdd, Nat.reduceLeDiff, numR, memR, valR, heapR, updR, intR, decR, extR, slR, segR, thenR, pnR, Int.reduceToNat, Int.reduceAdd, Int.reduceSub, Int.reduceLT, Int.reduceLE, Nat.reduceSub, Nat.reduceMul, Nat.reduceEqDiff, d1, d2, d3, decide_true]
    exact okX.is) ?_
  refine postX.is (.bool true) (fun v w1 hR hd => by
    obtain ⟨d1, d2, -⟩ := hd; simp only [d1, d2, cond_true, cond_false]
    simp (disch := first | assumption | omega | (simp only [szR, tgC_len, tgC_all, tsC_len, tsC_all, spC_len] <;> omega) | rfl | decide) only [gen0, gen1, gen2, rulesM, litR, bolR, Nat.reduceAdd, Nat.reduceLeDiff, numR, memR, valR, heapR, updR, intR, decR, extR, slR, segR, thenR, pnR, Int.reduceToNat, Int.reduceAdd, Int.reduceSub, Int.reduceLT, Int.reduceLE, Nat.reduceSub, Nat.reduceMul, Nat.reduceEqDiff, d1, d2, beq_self_eq_true, if_true]
    exact okX.is) ?_
  refine postX.is (.bool true) (fun v w1 hR hd => by
    obtain ⟨d1, d2, -⟩ := hd; simp only [d1, d2, cond_true, cond_false]
    exact okX.is) ?_
  refine postX.is (.agg [.map (some mo)].toArray) (fun v w1 hR hd => by
    obtain ⟨d1, -⟩ := hd; simp only [d1, cond_true, cond_false]
    have e := hR.at h11 (by simp)
    simp (disch := first | assumption | omega | (simp only [szR, tgC_len, tgC_all, tsC_len, tsC_all, spC_len] <;> omega) | rfl | decide) only [gen0, gen1, gen2, rulesM, litR, bolR, Nat.reduceAdd, Nat.reduceLeDiff, numR, memR, valR, heapR, updR, intR, decR, extR, slR, segR, thenR, pnR, Int.reduceToNat, Int.reduceAdd, Int.reduceSub, Int.reduceLT, Int.reduceLE, Nat.reduceSub, Nat.reduceMul, Nat.reduceEqDiff, d1, e, e1]
    exact okX.is) ?_
  refine postX.is (.agg (spC q).toArray) (fun v w1 hR hd => by
    obtain ⟨d1, -⟩ := hd; simp only [d1, cond_true, cond_false]
    have e := hR.at h4 (by simp)
    simp (disch := first | assumption | omega | (simp only [szR, tgC_len, tgC_all, tsC_len, tsC_all, spC_len] <;> omega) | rfl | decide) only [gen0, gen1, gen2, rulesM, litR, bolR, Nat.reduceAdd, Nat.reduceLeDiff, numR, memR, valR, heapR, updR, intR, decR, extR, slR, segR, thenR, pnR, Int.reduceToNat, Int.reduceAdd, Int.reduceSub, Int.reduceLT, Int.reduceLE, Nat.reduceSub, Nat.reduceMul, Nat.reduceEqDiff, d1, e, e2, e3]
    exact okX.is) ?_
  refine postX.intro (fun v w1 => ∃ b, v = .slice (some ⟨b, 0, none⟩) 1 1 ∧ w1.heap[b]? = some (.cells (spC q).toArray 47 (0, 0))) (fun v a b hR ⟨x, h1, h2⟩ => ⟨x, h1, hR.at h2 (by simp)⟩) (fun v w1 hR hd => by
    obtain ⟨d1, d2, -⟩ := hd
    simp (disch := first | assumption | omega | (simp only [szR, tgC_len, tgC_all, tsC_len, tsC_all, spC_len] <;> omega) | rfl | decide) only [gen0, gen1, gen2, rulesM, litR, bolR, Nat.reduceAdd, Nat.reduceLeDiff, numR, memR, valR, heapR, updR, intR, decR, extR, slR, segR, thenR, pnR, Int.reduceToNat, Int.reduceAdd, Int.reduceSub, Int.reduceLT, Int.reduceLE, Nat.reduceSub, Nat.reduceMul, Nat.reduceEqDiff, d1, d2, e3]
    refine okX.mk (by (repeat first | assumption | exact Ext.refl | apply Ext.alloc | apply Ext.drew | (refine Ext.updN ?_ ?_; (focus first | omega | (simp only [szR] <;> omega))) | (refine Ext.updI ?_ ?_; (focus (simp; done))))) ?_
    exact ⟨_, rfl, (by first | with_reducible rfl | assumption | (simp (disch := first | assumption | omega | (simp only [szR, tgC_len, tgC_all, tsC_len, tsC_all, spC_len] <;> omega) | rfl | decide) only [gen0, gen1, gen2, rulesM, litR, bolR, Nat.reduceAdd, Nat.reduceLeDiff, numR, memR, valR, heapR, updR, intR, decR, extR, slR, segR, thenR, pnR, Int.reduceToNat, Int.reduceAdd, Int.reduceSub, Int.reduceLT, Int.reduceLE, Nat.reduceSub, Nat.reduceMul, Nat.reduceEqDiff] <;> rfl))⟩) ?_
  refine postX.intro (fun v w1 => ∃ m, v = .agg [.map (some m)].toArray ∧ Bm w1 (some m) fun g => A g && !B g) (fun v a b hR ⟨x, h1, h2⟩ => ⟨x, h1, h2.ext0 hR⟩) (fun v w1 hR hd => by
    obtain ⟨d0, d1, ⟨b, d2, d3⟩, -⟩ := hd
    simp (disch := first | assumption | omega | (simp only [szR, tgC_len, tgC_all, tsC_len, tsC_all, spC_len] <;> omega) | rfl | decide) only [gen0, gen1, gen2, rulesM, litR, bolR, Nat.reduceAdd, Nat.reduceLeDiff, numR, memR, valR, heapR, updR, intR, decR, extR, slR, segR, thenR, pnR, Int.reduceToNat, Int.reduceAdd, Int.reduceSub, Int.reduceLT, Int.reduceLE, Nat.reduceSub, Nat.reduceMul, Nat.reduceEqDiff, d0, d1, d2]
    refine wipe_spec (l := [q]) (ho.ext0 hR) (RowsAt.one d3 rfl) (by simpa using hq) fun m w2 hB hx => okX.mk hx ⟨m, rfl, ?_⟩
    rw [hBq] at hB ⊢
    have := less_same A q
    rw [List.foldl_cons, List.foldl_nil, this] at hB
    exact hB) ?_
  refine postX.is (.int .i64 (cO : Nat)) (fun v w1 hR hd => by
    obtain ⟨d0, ⟨m, d1, d2⟩, -⟩ := hd
    simp (disch := first | assumption | omega | (simp only [szR, tgC_len, tgC_all, tsC_len, tsC_all, spC_len] <;> omega) | rfl | decide) only [gen0, gen1, gen2, rulesM, litR, bolR, Nat.reduceAdd, Nat.reduceLeDiff, numR, memR, valR, heapR, updR, intR, decR, extR, slR, segR, thenR, pnR, Int.reduceToNat, Int.reduceAdd, Int.reduceSub, Int.reduceLT, Int.reduceLE, Nat.reduceSub, Nat.reduceMul, Nat.reduceEqDiff, d0, d1]
    exact count_spec d2 hO (by omega) fun w2 hx => okX.mk hx (by rw [hcO])) ?_
  refine postX.is (.agg [.map (some mo)].toArray) (fun v w1 hR hd => by
    obtain ⟨d1, -⟩ := hd; simp only [d1, cond_true, cond_false]
    have e := hR.at h11 (by simp)
    simp (disch := first | assumption | omega | (simp only [szR, tgC_len, tgC_all, tsC_len, tsC_all, spC_len] <;> omega) | rfl | decide) only [gen0, gen1, gen2, rulesM, litR, bolR, Nat.reduceAdd, Nat.reduceLeDiff, numR, memR, valR, heapR, updR, intR, decR, extR, slR, segR, thenR, pnR, Int.reduceToNat, Int.reduceAdd, Int.reduceSub, Int.reduceLT, Int.reduceLE, Nat.reduceSub, Nat.reduceMul, Nat.reduceEqDiff, d1, e, e1]
    exact okX.is) ?_
  refine postX.is (.int .i64 (cO : Nat)) (fun v w1 hR hd => by
    obtain ⟨d1, d2, d3, -⟩ := hd; simp only [d1, d2, d3, cond_true, cond_false]
    simp (disch := first | assumption | omega | (simp only [szR, tgC_len, tgC_all, tsC_len, tsC_all, spC_len] <;> omega) | rfl | decide) only [gen0, gen1, gen2, rulesM, litR, bolR, Nat.reduceAdd, Nat.reduceLeDiff, numR, memR, valR, heapR, updR, intR, decR, extR, slR, segR, thenR, pnR, Int.reduceToNat, Int.reduceAdd, Int.reduceSub, Int.reduceLT, Int.reduceLE, Nat.reduceSub, Nat.reduceMul, Nat.reduceEqDiff, d1, d2, d3, ]
    exact count_spec (ho.ext0 hR) hO (by omega) fun w2 hx => okX.mk hx (by rw [hcO])) ?_
  refine postX.is (.bool true) (fun v w1 hR hd => by
    obtain ⟨d1, d2, d3, -⟩ := hd; simp only [d1, d2, d3, cond_true, cond_false]
    simp (disch := first | assumption | omega | (simp only [szR, tgC_len, tgC_all, tsC_len, tsC_all, spC_len] <;> omega) | rfl | decide) only [gen0, gen1, gen2, rulesM, litR, bolR, Nat.reduceAdd, Nat.reduceLeDiff, numR, memR, valR, heapR, updR, intR, decR, extR, slR, segR, thenR, pnR, Int.reduceToNat, Int.reduceAdd, Int.reduceSub, Int.reduceLT, Int.reduceLE, Nat.reduceSub, Nat.reduceMul, Nat.reduceEqDiff, d1, d2, d3, decide_true]
    exact okX.is) ?_
  refine postX.is (.bool true) (fun v w1 hR hd => by
    obtain ⟨d1, d2, -⟩ := hd; simp only [d1, d2, cond_true, cond_false]
    simp (disch := first | assumption | omega | (simp only [szR, tgC_len, tgC_all, tsC_len, tsC_all, spC_len] <;> omega) | rfl | decide) only [gen0, gen1, gen2, rulesM, litR, bolR, Nat.reduceAdd, Nat.reduceLeDiff, numR, memR, valR, heapR, updR, intR, decR, extR, slR, segR, thenR, pnR, Int.reduceToNat, Int.reduceAdd, Int.reduceSub, Int.reduceLT, Int.reduceLE, Nat.reduceSub, Nat.reduceMul, Nat.reduceEqDiff, d1, d2, beq_self_eq_true, if_true]
    exact okX.is) ?_
  refine postX.is (.bool true) (fun v w1 hR hd => by
    obtain ⟨d1, d2, -⟩ := hd; simp only [d1, d2, cond_true, cond_false]
    exact okX.is) ?_
  refine postX.is (.agg [.map none].toArray) (fun v w1 hR hd => by
    obtain ⟨d1, -⟩ := hd; simp only [d1, cond_true, cond_false]
    have e := hR.at h7 (by simp)
    simp (disch := first | assumption | omega | (simp only [szR, tgC_len, tgC_all, tsC_len, tsC_all, spC_len] <;> omega) | rfl | decide) only [gen0, gen1, gen2, rulesM, litR, bolR, Nat.reduceAdd, Nat.reduceLeDiff, numR, memR, valR, heapR, updR, intR, decR, extR, slR, segR, thenR, pnR, Int.reduceToNat, Int.reduceAdd, Int.reduceSub, Int.reduceLT, Int.reduceLE, Nat.reduceSub, Nat.reduceMul, Nat.reduceEqDiff, d1, e, e1]
    exact okX.is) ?_
  refine postX.is (.int .i64 (0 : Nat)) (fun v w1 hR hd => by
    obtain ⟨d1, d2, -⟩ := hd; simp only [d1, d2, cond_true, cond_false]
    simp (disch := first | assumption | omega | (simp only [szR, tgC_len, tgC_all, tsC_len, tsC_all, spC_len] <;> omega) | rfl | decide) only [gen0, gen1, gen2, rulesM, litR, bolR, Nat.reduceAdd, Nat.reduceLeDiff, numR, memR, valR, heapR, updR, intR, decR, extR, slR, segR, thenR, pnR, Int.reduceToNat, Int.reduceAdd, Int.reduceSub, Int.reduceLT, Int.reduceLE, Nat.reduceSub, Nat.reduceMul, Nat.reduceEqDiff, d1, d2, ]
    exact count_spec (bm_none _) (N := 1) (fun _ _ => rfl) (by decide) fun w2 hx => okX.mk hx (by rw [hz])) ?_
  refine postX.is (.bool true) (fun v w1 hR hd => by
    obtain ⟨d1, d2, -⟩ := hd; simp only [d1, d2, cond_true, cond_false]
    simp (disch := first | assumption | omega | (simp only [szR, tgC_len, tgC_all, tsC_len, tsC_all, spC_len] <;> omega) | rfl | decide) only [gen0, gen1, gen2, rulesM, litR, bolR, Nat.reduceAdd, Nat.reduceLeDiff, numR, memR, valR, heapR, updR, intR, decR, extR, slR, segR, thenR, pnR, Int.reduceToNat, Int.reduceAdd, Int.reduceSub, Int.reduceLT, Int.reduceLE, Nat.reduceSub, Nat.reduceMul, Nat.reduceEqDiff, d1, d2, decide_true]
    exact okX.is) ?_
  refine postX.is (.bool true) (fun v w1 hR hd => by
    obtain ⟨d1, d2, -⟩ := hd; simp only [d1, d2, cond_true, cond_false]
    simp (disch := first | assumption | omega | (simp only [szR, tgC_len, tgC_all, tsC_len, tsC_all, spC_len] <;> omega) | rfl | decide) only [gen0, gen1, gen2, rulesM, litR, bolR, Nat.reduceAdd, Nat.reduceLeDiff, numR, memR, valR, heapR, updR, intR, decR, extR, slR, segR, thenR, pnR, Int.reduceToNat, Int.reduceAdd, Int.reduceSub, Int.reduceLT, Int.reduceLE, Nat.reduceSub, Nat.reduceMul, Nat.reduceEqDiff, d1, d2, beq_self_eq_true, if_true]
    exact okX.is) ?_
  refine postX.is (.bool true) (fun v w1 hR hd => by
    obtain ⟨d1, d2, -⟩ := hd; simp only [d1, d2, cond_true, cond_false]
    exact okX.is) ?_
  refine postX.is (.bool true) (fun v w1 hR hd => by
    obtain ⟨d1, -⟩ := hd; simp only [d1, cond_true, cond_false]
    simp (disch := first | assumption | omega | (simp only [szR, tgC_len, tgC_all, tsC_len, tsC_all, spC_len] <;> omega) | rfl | decide) only [gen0, gen1, gen2, rulesM, litR, bolR, Nat.reduceAdd, Nat.reduceLeDiff, numR, memR, valR, heapR, updR, intR, decR, extR, slR, segR, thenR, pnR, Int.reduceToNat, Int.reduceAdd, Int.reduceSub, Int.reduceLT, Int.reduceLE, Nat.reduceSub, Nat.reduceMul, Nat.reduceEqDiff, d1, ]
    exact one_spec fun w2 hx => okX.mk hx rfl) ?_
  refine postX.is (.bool true) (fun v w1 hR hd => by
    obtain ⟨d1, d2, -⟩ := hd; simp only [d1, d2, cond_true, cond_false]
    simp (disch := first | assumption | omega | (simp only [szR, tgC_len, tgC_all, tsC_len, tsC_all, spC_len] <;> omega) | rfl | decide) only [gen0, gen1, gen2, rulesM, litR, bolR, Nat.reduceAdd, Nat.reduceLeDiff, numR, memR, valR, heapR, updR, intR, decR, extR, slR, segR, thenR, pnR, Int.reduceToNat, Int.reduceAdd, Int.reduceSub, Int.reduceLT, Int.reduceLE, Nat.reduceSub, Nat.reduceMul, Nat.reduceEqDiff, d1, d2, beq_self_eq_true, if_true]
    exact okX.is) ?_
  intro v w1 hR hd _
  have hl := hd
  simp only [and_true] at hl
  have e101 : v 101 = .bool true := hl.2.2.2.2.2.2.2.2.2.2.2.2.2.2.2.2.2.2.2.2.2.2.2.2.2.2.2.2.2.2.2.2.2.2
  rw [e101]
  exact hK w1 hR
end Go.Proofs.Ytgnibcaflidjmaa
