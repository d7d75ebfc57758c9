/- Where the number in an instruction is, whatever it is; conditions: those of each theorem. -/
import Derived.Test.YtobkjnmdbkieeaaDoorAI1
namespace Go.Proofs.YtobkjnmdbkieeaaDoor
open Go.Fx
set_option maxRecDepth 100000
set_option linter.unusedSimpArgs false
set_option linter.unusedVariables false
/-- a piece: where it goes, how long, where it is. -/
def pcC (p : Nat × Nat × Nat) : List Value := [.int .i64 (p.1 : Nat), .int .i64 (p.2.1 : Nat), .int .i64 (p.2.2 : Nat)]
theorem pcC_len (p : Nat × Nat × Nat) : (pcC p).length = 3 := by simp [pcC]
theorem pcC_all (p : Nat × Nat × Nat) : (pcC p).all (fun v => v.oneCell') = true := by simp [pcC]; exact ⟨rfl, rfl, rfl⟩
theorem pcC_sub (p : Nat × Nat × Nat) : sub (pcC p) 0 3 = pcC p := rfl
theorem pcC_over (p : Nat × Nat × Nat) : splice [.int .i64 0, .int .i64 0, .int .i64 0] 0 (pcC p) = pcC p := rfl
theorem pcC_over2 (p : Nat × Nat × Nat) : pcC p ++ List.drop (pcC p).length [.int .i64 0, .int .i64 0, .int .i64 0] = pcC p := by simp [pcC]
def pcOk (p : Nat × Nat × Nat) : Prop := 0 < p.2.1 ∧ p.2.1 < 64 ∧ p.1 + p.2.1 ≤ 64 ∧ p.2.2 + p.2.1 ≤ 64
/-- a layout's cells. -/
def loC (v : Value) (bits : Nat) (sg : Bool) (z : Nat) : List Value := [v, .int .i64 (bits : Nat), .bool sg, .int .i64 (z : Nat)]
theorem loC_len (v : Value) (b : Nat) (s : Bool) (z : Nat) : (loC v b s z).length = 4 := by simp [loC]
theorem loC_all (a : Option Addr) (n c : Nat) (b : Nat) (s : Bool) (z : Nat) : (loC (.slice a n c) b s z).all (fun v => v.oneCell') = true := by simp [loC]; exact ⟨rfl, rfl, rfl, rfl⟩
theorem rowsP1 {w : World} {E : TypeId} {f : Nat × Nat} {g : Nat} {p : Nat × Nat × Nat} (h : w.heap[g]? = some (.cells (pcC p).toArray E f)) : RowsAt w (.slice (some ⟨g, 0, none⟩) 1 1) 3 ([p].map pcC) := RowsAt.one h rfl
theorem rowsP2 {w : World} {E : TypeId} {f : Nat × Nat} {g : Nat} {p q : Nat × Nat × Nat} (h : w.heap[g]? = some (.cells (pcC p ++ pcC q).toArray E f)) : RowsAt w (.slice (some ⟨g, 0, none⟩) 2 2) 3 ([p, q].map pcC) :=
  ⟨_, 2, rfl, ⟨Nat.le_refl _, by simp [maxLen]⟩, .inr ⟨g, 0, _, E, f, rfl, h, by simp [pcC_len], fun i r hi => by
    match i, hi with
    | 0, hi => simp at hi; subst hi; simp [sub, pcC]
    | 1, hi => simp at hi; subst hi; simp [sub, pcC]⟩⟩
theorem rowsP4 {w : World} {E : TypeId} {f : Nat × Nat} {g : Nat} {p q r s : Nat × Nat × Nat} (h : w.heap[g]? = some (.cells (pcC p ++ pcC q ++ pcC r ++ pcC s).toArray E f)) : RowsAt w (.slice (some ⟨g, 0, none⟩) 4 4) 3 ([p, q, r, s].map pcC) :=
  ⟨_, 4, rfl, ⟨Nat.le_refl _, by simp [maxLen]⟩, .inr ⟨g, 0, _, E, f, rfl, h, by simp [pcC_len], fun i r hi => by
    match i, hi with
    | 0, hi => simp at hi; subst hi; simp [sub, pcC]
    | 1, hi => simp at hi; subst hi; simp [sub, pcC]
    | 2, hi => simp at hi; subst hi; simp [sub, pcC]
    | 3, hi => simp at hi; subst hi; simp [sub, pcC]⟩⟩
theorem bsP2 (a b : List Value) (h1 : a.length = 3) (h2 : b.length = 3) (w : World) : (Instr.buildSlice 47 2 #[(0, .agg a.toArray), (1, .agg b.toArray)]).run Tryd.prog w = .ok (.slice (some ⟨w.heap.size, 0, none⟩) 2 2) (w.alloc (.cells (a ++ b).toArray 92)) := by
  have := run_bs Tryd.underlying47 (e := 92) (size := 3) (by kernel_rfl) [.agg a.toArray, .agg b.toArray] (by simp [Value.cells, h1, h2]) (by simp) w
  simpa [Value.cells, partsFrom] using this
theorem bsP4 (a b c d : List Value) (h1 : a.length = 3) (h2 : b.length = 3) (h3 : c.length = 3) (h4 : d.length = 3) (w : World) : (Instr.buildSlice 47 4 #[(0, .agg a.toArray), (1, .agg b.toArray), (2, .agg c.toArray), (3, .agg d.toArray)]).run Tryd.prog w = .ok (.slice (some ⟨w.heap.size, 0, none⟩) 4 4) (w.alloc (.cells (a ++ b ++ c ++ d).toArray 92)) := by
  have := run_bs Tryd.underlying47 (e := 92) (size := 3) (by kernel_rfl) [.agg a.toArray, .agg b.toArray, .agg c.toArray, .agg d.toArray] (by simp [Value.cells, h1, h2, h3, h4]) (by simp) w
  simpa [Value.cells, partsFrom] using this
/-- a shape's layout: its pieces, bits, sign, zeros. -/
def laidS (s : Nat) : List (Nat × Nat × Nat) × Nat × Bool × Nat :=
  if s = 73 then ([(0, 12, 20)], 12, true, 0) else if s = 67 then ([(0, 12, 20)], 12, false, 0) else if s = 72 then ([(0, 6, 20)], 6, false, 0) else if s = 83 then ([(0, 5, 7), (5, 7, 25)], 12, true, 0)
  else if s = 66 then ([(1, 4, 8), (5, 6, 25), (11, 1, 7), (12, 1, 31)], 13, true, 1) else if s = 85 then ([(12, 20, 12)], 32, true, 12) else if s = 74 then ([(12, 8, 12), (11, 1, 20), (1, 10, 21), (20, 1, 31)], 21, true, 1) else ([], 0, false, 0)
theorem laidG_spec {w : World} {s : Nat} (hs : shOk s) {K : Value → World → Prop} (hK : ∀ a n c w', n = (laidS s).1.length → RowsAt w' (.slice a n c) 3 ((laidS s).1.map pcC) → Ext [] w w' → K (.agg (loC (.slice a n c) (laidS s).2.1 (laidS s).2.2.1 (laidS s).2.2.2).toArray) w') : callsK Tryd.prog 13 #[.int .u8 (s : Nat)] w K := by
  apply F13_ok
  unfold F13
  rcases hs with rfl | rfl | rfl | rfl | rfl | rfl | rfl | rfl | rfl | rfl | rfl
  all_goals
    simp (disch := first | assumption | omega | (simp only [szR, rwC_len, rwC_all, rwsC_len, rwsC_all, ptC_len, ptC_all, pcC_len, pcC_all] <;> omega) | rfl | decide) only [gen0, gen1, gen2, rulesC, rulesX, litR, bolR, Nat.reduceAdd, Nat.reduceLeDiff, numR, memR, valR, heapR, updR, intR, decR, extR, slR, segR, thenR, pnR, Int.reduceToNat, Int.reduceAdd, Int.reduceSub, Int.reduceLT, Int.reduceLE, Nat.reduceSub, Nat.reduceMul, Nat.reduceEqDiff]
    refine joinL.intro fun J0 hJ0 => ?_
    simp (disch := first | assumption | omega | (simp only [szR, rwC_len, rwC_all, rwsC_len, rwsC_all, ptC_len, ptC_all, pcC_len, pcC_all] <;> omega) | rfl | decide) only [gen0, gen1, gen2, rulesC, rulesX, litR, bolR, Nat.reduceAdd, Nat.reduceLeDiff, numR, memR, valR, heapR, updR, intR, decR, extR, slR, segR, thenR, pnR, Int.reduceToNat, Int.reduceAdd, Int.reduceSub, Int.reduceLT, Int.reduceLE, Nat.reduceSub, Nat.reduceMul, Nat.reduceEqDiff]
    apply hJ0
    intro _
  · simp (disch := first | assumption | omega | (simp only [szR, rwC_len, rwC_all, rwsC_len, rwsC_all, ptC_len, ptC_all, pcC_len, pcC_all] <;> omega) | rfl | decide) only [gen0, gen1, gen2, rulesC, rulesX, litR, bolR, Nat.reduceAdd, Nat.reduceLeDiff, numR, memR, valR, heapR, updR, intR, decR, extR, slR, segR, thenR, pnR, Int.reduceToNat, Int.reduceAdd, Int.reduceSub, Int.reduceLT, Int.reduceLE, Nat.reduceSub, Nat.reduceMul, Nat.reduceEqDiff]
    refine hK (some ⟨w.heap.size + 1, 0, none⟩) 1 1 _ rfl (rowsP1 (p := (0, 12, 20)) (E := 92) (f := (0, 0)) ?_) (by (repeat first | assumption | exact Ext.refl | apply Ext.alloc | apply Ext.drew | (refine Ext.updN ?_ ?_; (focus first | omega | (simp only [szR] <;> omega))) | (refine Ext.updI ?_ ?_; (focus (simp; done)))))
    rw [upd_ne (by omega)]
    simp (disch := first | assumption | omega | (simp only [szR, rwC_len, rwC_all, rwsC_len, rwsC_all, ptC_len, ptC_all, pcC_len, pcC_all] <;> omega) | rfl | decide) only [gen0, gen1, gen2, rulesC, rulesX, litR, bolR, Nat.reduceAdd, Nat.reduceLeDiff, numR, memR, valR, heapR, updR, intR, decR, extR, slR, segR, thenR, pnR, Int.reduceToNat, Int.reduceAdd, Int.reduceSub, Int.reduceLT, Int.reduceLE, Nat.reduceSub, Nat.reduceMul, Nat.reduceEqDiff]
    rfl
  · simp (disch := first | assumption | omega | (simp only [szR, rwC_len, rwC_all, rwsC_len, rwsC_all, ptC_len, ptC_all, pcC_len, pcC_all] <;> omega) | rfl | decide) only [gen0, gen1, gen2, rulesC, rulesX, litR, bolR, Nat.reduceAdd, Nat.reduceLeDiff, numR, memR, valR, heapR, updR, intR, decR, extR, slR, segR, thenR, pnR, Int.reduceToNat, Int.reduceAdd, Int.reduceSub, Int.reduceLT, Int.reduceLE, Nat.reduceSub, Nat.reduceMul, Nat.reduceEqDiff]
    refine hK (some ⟨w.heap.size + 1, 0, none⟩) 1 1 _ rfl (rowsP1 (p := (0, 12, 20)) (E := 92) (f := (0, 0)) ?_) (by (repeat first | assumption | exact Ext.refl | apply Ext.alloc | apply Ext.drew | (refine Ext.updN ?_ ?_; (focus first | omega | (simp only [szR] <;> omega))) | (refine Ext.updI ?_ ?_; (focus (simp; done)))))
    rw [upd_ne (by omega)]
    simp (disch := first | assumption | omega | (simp only [szR, rwC_len, rwC_all, rwsC_len, rwsC_all, ptC_len, ptC_all, pcC_len, pcC_all] <;> omega) | rfl | decide) only [gen0, gen1, gen2, rulesC, rulesX, litR, bolR, Nat.reduceAdd, Nat.reduceLeDiff, numR, memR, valR, heapR, updR, intR, decR, extR, slR, segR, thenR, pnR, Int.reduceToNat, Int.reduceAdd, Int.reduceSub, Int.reduceLT, Int.reduceLE, Nat.reduceSub, Nat.reduceMul, Nat.reduceEqDiff]
    rfl
  · simp (disch := first | assumption | omega | (simp only [szR, rwC_len, rwC_all, rwsC_len, rwsC_all, ptC_len, ptC_all, pcC_len, pcC_all] <;> omega) | rfl | decide) only [gen0, gen1, gen2, rulesC, rulesX, litR, bolR, Nat.reduceAdd, Nat.reduceLeDiff, numR, memR, valR, heapR, updR, intR, decR, extR, slR, segR, thenR, pnR, Int.reduceToNat, Int.reduceAdd, Int.reduceSub, Int.reduceLT, Int.reduceLE, Nat.reduceSub, Nat.reduceMul, Nat.reduceEqDiff]
    refine hK (some ⟨w.heap.size + 1, 0, none⟩) 1 1 _ rfl (rowsP1 (p := (0, 6, 20)) (E := 92) (f := (0, 0)) ?_) (by (repeat first | assumption | exact Ext.refl | apply Ext.alloc | apply Ext.drew | (refine Ext.updN ?_ ?_; (focus first | omega | (simp only [szR] <;> omega))) | (refine Ext.updI ?_ ?_; (focus (simp; done)))))
    rw [upd_ne (by omega)]
    simp (disch := first | assumption | omega | (simp only [szR, rwC_len, rwC_all, rwsC_len, rwsC_all, ptC_len, ptC_all, pcC_len, pcC_all] <;> omega) | rfl | decide) only [gen0, gen1, gen2, rulesC, rulesX, litR, bolR, Nat.reduceAdd, Nat.reduceLeDiff, numR, memR, valR, heapR, updR, intR, decR, extR, slR, segR, thenR, pnR, Int.reduceToNat, Int.reduceAdd, Int.reduceSub, Int.reduceLT, Int.reduceLE, Nat.reduceSub, Nat.reduceMul, Nat.reduceEqDiff]
    rfl
  · have hbs : ∀ w : World, (Instr.buildSlice 47 2 #[(0, .agg [.int .i64 0, .int .i64 5, .int .i64 7].toArray), (1, .agg [.int .i64 5, .int .i64 7, .int .i64 25].toArray)]).run Tryd.prog w = .ok (.slice (some ⟨w.heap.size, 0, none⟩) 2 2) (w.alloc (.cells [.int .i64 0, .int .i64 5, .int .i64 7, .int .i64 5, .int .i64 7, .int .i64 25].toArray 92)) := fun w => bsP2 (pcC (0, 5, 7)) (pcC (5, 7, 25)) rfl rfl w
    simp (disch := first | assumption | omega | (simp only [szR, rwC_len, rwC_all, rwsC_len, rwsC_all, ptC_len, ptC_all, pcC_len, pcC_all] <;> omega) | rfl | decide) only [gen0, gen1, gen2, rulesC, rulesX, litR, bolR, Nat.reduceAdd, Nat.reduceLeDiff, numR, memR, valR, heapR, updR, intR, decR, extR, slR, segR, thenR, pnR, Int.reduceToNat, Int.reduceAdd, Int.reduceSub, Int.reduceLT, Int.reduceLE, Nat.reduceSub, Nat.reduceMul, Nat.reduceEqDiff, hbs]
    refine hK (some ⟨w.heap.size + 1, 0, none⟩) 2 2 _ rfl (rowsP2 (p := (0, 5, 7)) (q := (5, 7, 25)) (E := 92) (f := (0, 0)) ?_) (by (repeat first | assumption | exact Ext.refl | apply Ext.alloc | apply Ext.drew | (refine Ext.updN ?_ ?_; (focus first | omega | (simp only [szR] <;> omega))) | (refine Ext.updI ?_ ?_; (focus (simp; done)))))
    rw [upd_ne (by omega)]
    simp (disch := first | assumption | omega | (simp only [szR, rwC_len, rwC_all, rwsC_len, rwsC_all, ptC_len, ptC_all, pcC_len, pcC_all] <;> omega) | rfl | decide) only [gen0, gen1, gen2, rulesC, rulesX, litR, bolR, Nat.reduceAdd, Nat.reduceLeDiff, numR, memR, valR, heapR, updR, intR, decR, extR, slR, segR, thenR, pnR, Int.reduceToNat, Int.reduceAdd, Int.reduceSub, Int.reduceLT, Int.reduceLE, Nat.reduceSub, Nat.reduceMul, Nat.reduceEqDiff]
    rfl
  · have hbs : ∀ w : World, (Instr.buildSlice 47 4 #[(0, .agg [.int .i64 1, .int .i64 4, .int .i64 8].toArray), (1, .agg [.int .i64 5, .int .i64 6, .int .i64 25].toArray), (2, .agg [.int .i64 11, .int .i64 1, .int .i64 7].toArray), (3, .agg [.int .i64 12, .int .i64 1, .int .i64 31].toArray)]).run Tryd.prog w = .ok (.slice (some ⟨w.heap.size, 0, none⟩) 4 4) (w.alloc (.cells (pcC (1, 4, 8) ++ pcC (5, 6, 25) ++ pcC (11, 1, 7) ++ pcC (12, 1, 31)).toArray 92)) := fun w => bsP4 (pcC (1, 4, 8)) (pcC (5, 6, 25)) (pcC (11, 1, 7)) (pcC (12, 1, 31)) rfl rfl rfl rfl w
    simp (disch := first | assumption | omega | (simp only [szR, rwC_len, rwC_all, rwsC_len, rwsC_all, ptC_len, ptC_all, pcC_len, pcC_all] <;> omega) | rfl | decide) only [gen0, gen1, gen2, rulesC, rulesX, litR, bolR, Nat.reduceAdd, Nat.reduceLeDiff, numR, memR, valR, heapR, updR, intR, decR, extR, slR, segR, thenR, pnR, Int.reduceToNat, Int.reduceAdd, Int.reduceSub, Int.reduceLT, Int.reduceLE, Nat.reduceSub, Nat.reduceMul, Nat.reduceEqDiff, hbs]
    refine hK (some ⟨w.heap.size + 1, 0, none⟩) 4 4 _ rfl (rowsP4 (p := (1, 4, 8)) (q := (5, 6, 25)) (r := (11, 1, 7)) (s := (12, 1, 31)) (E := 92) (f := (0, 0)) ?_) (by (repeat first | assumption | exact Ext.refl | apply Ext.alloc | apply Ext.drew | (refine Ext.updN ?_ ?_; (focus first | omega | (simp only [szR] <;> omega))) | (refine Ext.updI ?_ ?_; (focus (simp; done)))))
    rw [upd_ne (by omega)]
    simp (disch := first | assumption | omega | (simp only [szR, rwC_len, rwC_all, rwsC_len, rwsC_all, ptC_len, ptC_all, pcC_len, pcC_all] <;> omega) | rfl | decide) only [gen0, gen1, gen2, rulesC, rulesX, litR, bolR, Nat.reduceAdd, Nat.reduceLeDiff, numR, memR, valR, heapR, updR, intR, decR, extR, slR, segR, thenR, pnR, Int.reduceToNat, Int.reduceAdd, Int.reduceSub, Int.reduceLT, Int.reduceLE, Nat.reduceSub, Nat.reduceMul, Nat.reduceEqDiff]
  · simp (disch := first | assumption | omega | (simp only [szR, rwC_len, rwC_all, rwsC_len, rwsC_all, ptC_len, ptC_all, pcC_len, pcC_all] <;> omega) | rfl | decide) only [gen0, gen1, gen2, rulesC, rulesX, litR, bolR, Nat.reduceAdd, Nat.reduceLeDiff, numR, memR, valR, heapR, updR, intR, decR, extR, slR, segR, thenR, pnR, Int.reduceToNat, Int.reduceAdd, Int.reduceSub, Int.reduceLT, Int.reduceLE, Nat.reduceSub, Nat.reduceMul, Nat.reduceEqDiff]
    refine hK (some ⟨w.heap.size + 1, 0, none⟩) 1 1 _ rfl (rowsP1 (p := (12, 20, 12)) (E := 92) (f := (0, 0)) ?_) (by (repeat first | assumption | exact Ext.refl | apply Ext.alloc | apply Ext.drew | (refine Ext.updN ?_ ?_; (focus first | omega | (simp only [szR] <;> omega))) | (refine Ext.updI ?_ ?_; (focus (simp; done)))))
    rw [upd_ne (by omega)]
    simp (disch := first | assumption | omega | (simp only [szR, rwC_len, rwC_all, rwsC_len, rwsC_all, ptC_len, ptC_all, pcC_len, pcC_all] <;> omega) | rfl | decide) only [gen0, gen1, gen2, rulesC, rulesX, litR, bolR, Nat.reduceAdd, Nat.reduceLeDiff, numR, memR, valR, heapR, updR, intR, decR, extR, slR, segR, thenR, pnR, Int.reduceToNat, Int.reduceAdd, Int.reduceSub, Int.reduceLT, Int.reduceLE, Nat.reduceSub, Nat.reduceMul, Nat.reduceEqDiff]
    rfl
  · have hbs : ∀ w : World, (Instr.buildSlice 47 4 #[(0, .agg [.int .i64 12, .int .i64 8, .int .i64 12].toArray), (1, .agg [.int .i64 11, .int .i64 1, .int .i64 20].toArray), (2, .agg [.int .i64 1, .int .i64 10, .int .i64 21].toArray), (3, .agg [.int .i64 20, .int .i64 1, .int .i64 31].toArray)]).run Tryd.prog w = .ok (.slice (some ⟨w.heap.size, 0, none⟩) 4 4) (w.alloc (.cells (pcC (12, 8, 12) ++ pcC (11, 1, 20) ++ pcC (1, 10, 21) ++ pcC (20, 1, 31)).toArray 92)) := fun w => bsP4 (pcC (12, 8, 12)) (pcC (11, 1, 20)) (pcC (1, 10, 21)) (pcC (20, 1, 31)) rfl rfl rfl rfl w
    simp (disch := first | assumption | omega | (simp only [szR, rwC_len, rwC_all, rwsC_len, rwsC_all, ptC_len, ptC_all, pcC_len, pcC_all] <;> omega) | rfl | decide) only [gen0, gen1, gen2, rulesC, rulesX, litR, bolR, Nat.reduceAdd, Nat.reduceLeDiff, numR, memR, valR, heapR, updR, intR, decR, extR, slR, segR, thenR, pnR, Int.reduceToNat, Int.reduceAdd, Int.reduceSub, Int.reduceLT, Int.reduceLE, Nat.reduceSub, Nat.reduceMul, Nat.reduceEqDiff, hbs]
    refine hK (some ⟨w.heap.size + 1, 0, none⟩) 4 4 _ rfl (rowsP4 (p := (12, 8, 12)) (q := (11, 1, 20)) (r := (1, 10, 21)) (s := (20, 1, 31)) (E := 92) (f := (0, 0)) ?_) (by (repeat first | assumption | exact Ext.refl | apply Ext.alloc | apply Ext.drew | (refine Ext.updN ?_ ?_; (focus first | omega | (simp only [szR] <;> omega))) | (refine Ext.updI ?_ ?_; (focus (simp; done)))))
    rw [upd_ne (by omega)]
    simp (disch := first | assumption | omega | (simp only [szR, rwC_len, rwC_all, rwsC_len, rwsC_all, ptC_len, ptC_all, pcC_len, pcC_all] <;> omega) | rfl | decide) only [gen0, gen1, gen2, rulesC, rulesX, litR, bolR, Nat.reduceAdd, Nat.reduceLeDiff, numR, memR, valR, heapR, updR, intR, decR, extR, slR, segR, thenR, pnR, Int.reduceToNat, Int.reduceAdd, Int.reduceSub, Int.reduceLT, Int.reduceLE, Nat.reduceSub, Nat.reduceMul, Nat.reduceEqDiff]
  all_goals
    simp (disch := first | assumption | omega | (simp only [szR, rwC_len, rwC_all, rwsC_len, rwsC_all, ptC_len, ptC_all, pcC_len, pcC_all] <;> omega) | rfl | decide) only [gen0, gen1, gen2, rulesC, rulesX, litR, bolR, Nat.reduceAdd, Nat.reduceLeDiff, numR, memR, valR, heapR, updR, intR, decR, extR, slR, segR, thenR, pnR, Int.reduceToNat, Int.reduceAdd, Int.reduceSub, Int.reduceLT, Int.reduceLE, Nat.reduceSub, Nat.reduceMul, Nat.reduceEqDiff]
    exact hK none 0 0 _ rfl ⟨none, 0, rfl, ⟨Nat.le_refl _, by simp [maxLen]⟩, .inl rfl⟩ (by (repeat first | assumption | exact Ext.refl | apply Ext.alloc | apply Ext.drew | (refine Ext.updN ?_ ?_; (focus first | omega | (simp only [szR] <;> omega))) | (refine Ext.updI ?_ ?_; (focus (simp; done)))))
/-- which registers a shape has. -/
def hasS (s : Nat) : Bool × Bool × Bool := if s = 82 then (true, true, true) else if s = 71 ∨ s = 73 ∨ s = 67 ∨ s = 72 then (true, true, false) else if s = 83 ∨ s = 66 then (false, true, true) else if s = 85 ∨ s = 74 then (true, false, false) else (false, false, false)
theorem hasG_spec {w : World} {s : Nat} (hs : shOk s) {K : Value → World → Prop} (hK : K (.tuple #[.bool (hasS s).1, .bool (hasS s).2.1, .bool (hasS s).2.2]) w) : callsK Tryd.prog 16 #[.int .u8 (s : Nat)] w K := by
  apply F16_ok
  unfold F16
  rcases hs with rfl | rfl | rfl | rfl | rfl | rfl | rfl | rfl | rfl | rfl | rfl
  all_goals
    simp (disch := first | assumption | omega | (simp only [szR, rwC_len, rwC_all, rwsC_len, rwsC_all, ptC_len, ptC_all, pcC_len, pcC_all] <;> omega) | rfl | decide) only [gen0, gen1, gen2, rulesC, rulesX, litR, bolR, Nat.reduceAdd, Nat.reduceLeDiff, numR, memR, valR, heapR, updR, intR, decR, extR, slR, segR, thenR, pnR, Int.reduceToNat, Int.reduceAdd, Int.reduceSub, Int.reduceLT, Int.reduceLE, Nat.reduceSub, Nat.reduceMul, Nat.reduceEqDiff, joinR]
    first | exact hK | exact fun _ => hK | exact fun _ _ => hK | exact fun _ _ _ => hK
/-- what an instruction has, in order. -/
def orderS (s : Nat) : List UInt8 := if s = 82 then [100, 97, 98] else if s = 71 then [100, 97] else if s = 73 ∨ s = 67 ∨ s = 72 then [100, 97, 109] else if s = 83 then [98, 97, 109] else if s = 66 then [97, 98, 109] else if s = 85 ∨ s = 74 then [100, 109] else []
theorem order_spec {w : World} {s : Nat} (hs : shOk s) {K : Value → World → Prop} (hK : K (.string ⟨(orderS s).toArray⟩) w) : callsK Tryd.prog 22 #[.int .u8 (s : Nat)] w K := by
  apply F22_ok
  unfold F22
  rcases hs with rfl | rfl | rfl | rfl | rfl | rfl | rfl | rfl | rfl | rfl | rfl
  all_goals
    simp (disch := first | assumption | omega | (simp only [szR, rwC_len, rwC_all, rwsC_len, rwsC_all, ptC_len, ptC_all, pcC_len, pcC_all] <;> omega) | rfl | decide) only [gen0, gen1, gen2, rulesC, rulesX, litR, bolR, Nat.reduceAdd, Nat.reduceLeDiff, numR, memR, valR, heapR, updR, intR, decR, extR, slR, segR, thenR, pnR, Int.reduceToNat, Int.reduceAdd, Int.reduceSub, Int.reduceLT, Int.reduceLE, Nat.reduceSub, Nat.reduceMul, Nat.reduceEqDiff, joinR]
    first | exact hK | exact fun _ => hK | exact fun _ _ => hK | exact fun _ _ _ => hK
end Go.Proofs.YtobkjnmdbkieeaaDoor
