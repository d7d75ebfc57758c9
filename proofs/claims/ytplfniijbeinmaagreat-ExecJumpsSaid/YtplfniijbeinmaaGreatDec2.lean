/- Instructions of words; conditions: those of each theorem. -/
import Derived.Test.YtplfniijbeinmaaGreatDec
namespace Go.Proofs.YtplfniijbeinmaaGreat
open Go.Fx
set_option maxRecDepth 100000
set_option linter.unusedSimpArgs false
set_option linter.unusedVariables false
theorem loC_len (v : Value) (b : Nat) (s : Bool) (z : Nat) : (loC v b s z).length = 4 := by simp [loC]
theorem loC_all (a : Option Addr) (n c : Nat) (b : Nat) (s : Bool) (z : Nat) : (loC (.slice a n c) b s z).all (fun v => v.oneCell') = true := by simp [loC]; exact ⟨rfl, rfl, rfl, rfl⟩
/-- the pieces of a shape's number. -/
def pcsOf (s : Nat) : List (Nat × Nat × Nat) := if s = 73 then [(0, 12, 20)] else [(0, 5, 7), (5, 7, 25)]
theorem rowsP1 {w : World} {E : TypeId} {f : Nat × Nat} {g : Nat} {p : Nat × Nat × Nat} (h : w.heap[g]? = some (.cells (pcC p).toArray E f)) : RowsAt w (.slice (some ⟨g, 0, none⟩) 1 1) 3 ([p].map pcC) := RowsAt.one h rfl
theorem rowsP2 {w : World} {E : TypeId} {f : Nat × Nat} {g : Nat} {p q : Nat × Nat × Nat} (h : w.heap[g]? = some (.cells (pcC p ++ pcC q).toArray E f)) : RowsAt w (.slice (some ⟨g, 0, none⟩) 2 2) 3 ([p, q].map pcC) :=
  ⟨_, 2, rfl, ⟨Nat.le_refl _, by simp [maxLen]⟩, .inr ⟨g, 0, _, E, f, rfl, h, by simp [pcC_len], fun i r hi => by
    match i, hi with
    | 0, hi => simp at hi; subst hi; simp [sub, pcC]
    | 1, hi => simp at hi; subst hi; simp [sub, pcC]⟩⟩
theorem bsP2 (a b : List Value) (h1 : a.length = 3) (h2 : b.length = 3) (w : World) : (Instr.buildSlice 104 2 #[(0, .agg a.toArray), (1, .agg b.toArray)]).run Tryz.prog w = .ok (.slice (some ⟨w.heap.size, 0, none⟩) 2 2) (w.alloc (.cells (a ++ b).toArray 169)) := by
  have := run_bs Tryz.underlying104 (e := 169) (size := 3) (by kernel_rfl) [.agg a.toArray, .agg b.toArray] (by simp [Value.cells, h1, h2]) (by simp) w
  simpa [Value.cells, partsFrom] using this
theorem laid_spec {w : World} {s : Nat} (hs : s = 73 ∨ s = 83) {K : Value → World → Prop} (hK : ∀ v w', RowsAt w' v 3 ((pcsOf s).map pcC) → (∃ a n c, v = .slice a n c) → Ext [] w w' → K (.agg (loC v 12 true 0).toArray) w') : callsK Tryz.prog 35 #[.int .u8 (s : Nat)] w K := by
  apply F35_ok
  unfold F35
  rcases hs with rfl | rfl
  · simp (disch := first | assumption | omega | (simp only [szR, rwC_len, rwC_all, rwsC_len, rwsC_all, ptC_len, ptC_all, pcC_len, pcC_all, loC_len, loC_all] <;> omega) | rfl | decide) only [gen0, gen1, gen2, rulesC, rulesX, litR, bolR, Nat.reduceAdd, Nat.reduceLeDiff, numR, memR, valR, heapR, updR, intR, decR, extR, slR, segR, thenR, pnR, Int.reduceToNat, Int.reduceAdd, Int.reduceSub, Int.reduceLT, Int.reduceLE, Nat.reduceSub, Nat.reduceMul, Nat.reduceEqDiff]
    refine joinL.intro fun J0 hJ0 => ?_
    simp (disch := first | assumption | omega | (simp only [szR, rwC_len, rwC_all, rwsC_len, rwsC_all, ptC_len, ptC_all, pcC_len, pcC_all, loC_len, loC_all] <;> omega) | rfl | decide) only [gen0, gen1, gen2, rulesC, rulesX, litR, bolR, Nat.reduceAdd, Nat.reduceLeDiff, numR, memR, valR, heapR, updR, intR, decR, extR, slR, segR, thenR, pnR, Int.reduceToNat, Int.reduceAdd, Int.reduceSub, Int.reduceLT, Int.reduceLE, Nat.reduceSub, Nat.reduceMul, Nat.reduceEqDiff]
    apply hJ0
    intro _
    refine .inl ⟨rfl, ?_⟩
    simp (disch := first | assumption | omega | (simp only [szR, rwC_len, rwC_all, rwsC_len, rwsC_all, ptC_len, ptC_all, pcC_len, pcC_all, loC_len, loC_all] <;> omega) | rfl | decide) only [gen0, gen1, gen2, rulesC, rulesX, litR, bolR, Nat.reduceAdd, Nat.reduceLeDiff, numR, memR, valR, heapR, updR, intR, decR, extR, slR, segR, thenR, pnR, Int.reduceToNat, Int.reduceAdd, Int.reduceSub, Int.reduceLT, Int.reduceLE, Nat.reduceSub, Nat.reduceMul, Nat.reduceEqDiff]
    refine hK (.slice (some ⟨w.heap.size + 1, 0, none⟩) 1 1) _ (rowsP1 (p := (0, 12, 20)) (E := 169) (f := (0, 0)) ?_) ⟨_, _, _, rfl⟩ (by (repeat first | assumption | exact Ext.refl | apply Ext.alloc | apply Ext.drew | (refine Ext.updN ?_ ?_; (focus first | omega | (simp only [szR] <;> omega))) | (refine Ext.updI ?_ ?_; (focus (simp; done)))))
    rw [upd_ne (by omega)]
    simp (disch := first | assumption | omega | (simp only [szR, rwC_len, rwC_all, rwsC_len, rwsC_all, ptC_len, ptC_all, pcC_len, pcC_all, loC_len, loC_all] <;> omega) | rfl | decide) only [gen0, gen1, gen2, rulesC, rulesX, litR, bolR, Nat.reduceAdd, Nat.reduceLeDiff, numR, memR, valR, heapR, updR, intR, decR, extR, slR, segR, thenR, pnR, Int.reduceToNat, Int.reduceAdd, Int.reduceSub, Int.reduceLT, Int.reduceLE, Nat.reduceSub, Nat.reduceMul, Nat.reduceEqDiff]
    rfl
  · simp (disch := first | assumption | omega | (simp only [szR, rwC_len, rwC_all, rwsC_len, rwsC_all, ptC_len, ptC_all, pcC_len, pcC_all, loC_len, loC_all] <;> omega) | rfl | decide) only [gen0, gen1, gen2, rulesC, rulesX, litR, bolR, Nat.reduceAdd, Nat.reduceLeDiff, numR, memR, valR, heapR, updR, intR, decR, extR, slR, segR, thenR, pnR, Int.reduceToNat, Int.reduceAdd, Int.reduceSub, Int.reduceLT, Int.reduceLE, Nat.reduceSub, Nat.reduceMul, Nat.reduceEqDiff]
    refine joinL.intro fun J0 hJ0 => ?_
    simp (disch := first | assumption | omega | (simp only [szR, rwC_len, rwC_all, rwsC_len, rwsC_all, ptC_len, ptC_all, pcC_len, pcC_all, loC_len, loC_all] <;> omega) | rfl | decide) only [gen0, gen1, gen2, rulesC, rulesX, litR, bolR, Nat.reduceAdd, Nat.reduceLeDiff, numR, memR, valR, heapR, updR, intR, decR, extR, slR, segR, thenR, pnR, Int.reduceToNat, Int.reduceAdd, Int.reduceSub, Int.reduceLT, Int.reduceLE, Nat.reduceSub, Nat.reduceMul, Nat.reduceEqDiff]
    apply hJ0
    intro _
    refine .inr ⟨rfl, ?_⟩
    have hbs : ∀ w : World, (Instr.buildSlice 104 2 #[(0, .agg [.int .i64 0, .int .i64 5, .int .i64 7].toArray), (1, .agg [.int .i64 5, .int .i64 7, .int .i64 25].toArray)]).run Tryz.prog w = .ok (.slice (some ⟨w.heap.size, 0, none⟩) 2 2) (w.alloc (.cells [.int .i64 0, .int .i64 5, .int .i64 7, .int .i64 5, .int .i64 7, .int .i64 25].toArray 169)) := fun w => bsP2 (pcC (0, 5, 7)) (pcC (5, 7, 25)) rfl rfl w
    simp (disch := first | assumption | omega | (simp only [szR, rwC_len, rwC_all, rwsC_len, rwsC_all, ptC_len, ptC_all, pcC_len, pcC_all, loC_len, loC_all] <;> omega) | rfl | decide) only [gen0, gen1, gen2, rulesC, rulesX, litR, bolR, Nat.reduceAdd, Nat.reduceLeDiff, numR, memR, valR, heapR, updR, intR, decR, extR, slR, segR, thenR, pnR, Int.reduceToNat, Int.reduceAdd, Int.reduceSub, Int.reduceLT, Int.reduceLE, Nat.reduceSub, Nat.reduceMul, Nat.reduceEqDiff, hbs]
    refine hK (.slice (some ⟨w.heap.size + 1, 0, none⟩) 2 2) _ (rowsP2 (p := (0, 5, 7)) (q := (5, 7, 25)) (E := 169) (f := (0, 0)) ?_) ⟨_, _, _, rfl⟩ (by (repeat first | assumption | exact Ext.refl | apply Ext.alloc | apply Ext.drew | (refine Ext.updN ?_ ?_; (focus first | omega | (simp only [szR] <;> omega))) | (refine Ext.updI ?_ ?_; (focus (simp; done)))))
    rw [upd_ne (by omega)]
    simp (disch := first | assumption | omega | (simp only [szR, rwC_len, rwC_all, rwsC_len, rwsC_all, ptC_len, ptC_all, pcC_len, pcC_all, loC_len, loC_all] <;> omega) | rfl | decide) only [gen0, gen1, gen2, rulesC, rulesX, litR, bolR, Nat.reduceAdd, Nat.reduceLeDiff, numR, memR, valR, heapR, updR, intR, decR, extR, slR, segR, thenR, pnR, Int.reduceToNat, Int.reduceAdd, Int.reduceSub, Int.reduceLT, Int.reduceLE, Nat.reduceSub, Nat.reduceMul, Nat.reduceEqDiff]
    rfl
theorem has_spec {w : World} {s : Nat} (hs : s = 73 ∨ s = 83) {K : Value → World → Prop} (hK : K (.tuple #[.bool (decide (s = 73)), .bool true, .bool (decide (s = 83))]) w) : callsK Tryz.prog 38 #[.int .u8 (s : Nat)] w K := by
  apply F38_ok
  unfold F38
  rcases hs with rfl | rfl
  · simp (disch := first | assumption | omega | (simp only [szR, rwC_len, rwC_all, rwsC_len, rwsC_all, ptC_len, ptC_all, pcC_len, pcC_all, loC_len, loC_all] <;> omega) | rfl | decide) only [gen0, gen1, gen2, rulesC, rulesX, litR, bolR, Nat.reduceAdd, Nat.reduceLeDiff, numR, memR, valR, heapR, updR, intR, decR, extR, slR, segR, thenR, pnR, Int.reduceToNat, Int.reduceAdd, Int.reduceSub, Int.reduceLT, Int.reduceLE, Nat.reduceSub, Nat.reduceMul, Nat.reduceEqDiff]
    refine joinL.intro fun J0 hJ0 => ?_
    simp (disch := first | assumption | omega | (simp only [szR, rwC_len, rwC_all, rwsC_len, rwsC_all, ptC_len, ptC_all, pcC_len, pcC_all, loC_len, loC_all] <;> omega) | rfl | decide) only [gen0, gen1, gen2, rulesC, rulesX, litR, bolR, Nat.reduceAdd, Nat.reduceLeDiff, numR, memR, valR, heapR, updR, intR, decR, extR, slR, segR, thenR, pnR, Int.reduceToNat, Int.reduceAdd, Int.reduceSub, Int.reduceLT, Int.reduceLE, Nat.reduceSub, Nat.reduceMul, Nat.reduceEqDiff]
    apply hJ0
    intro _
    exact .inl ⟨rfl, hK⟩
  · simp (disch := first | assumption | omega | (simp only [szR, rwC_len, rwC_all, rwsC_len, rwsC_all, ptC_len, ptC_all, pcC_len, pcC_all, loC_len, loC_all] <;> omega) | rfl | decide) only [gen0, gen1, gen2, rulesC, rulesX, litR, bolR, Nat.reduceAdd, Nat.reduceLeDiff, numR, memR, valR, heapR, updR, intR, decR, extR, slR, segR, thenR, pnR, Int.reduceToNat, Int.reduceAdd, Int.reduceSub, Int.reduceLT, Int.reduceLE, Nat.reduceSub, Nat.reduceMul, Nat.reduceEqDiff]
    refine joinL.intro fun J0 hJ0 => ?_
    simp (disch := first | assumption | omega | (simp only [szR, rwC_len, rwC_all, rwsC_len, rwsC_all, ptC_len, ptC_all, pcC_len, pcC_all, loC_len, loC_all] <;> omega) | rfl | decide) only [gen0, gen1, gen2, rulesC, rulesX, litR, bolR, Nat.reduceAdd, Nat.reduceLeDiff, numR, memR, valR, heapR, updR, intR, decR, extR, slR, segR, thenR, pnR, Int.reduceToNat, Int.reduceAdd, Int.reduceSub, Int.reduceLT, Int.reduceLE, Nat.reduceSub, Nat.reduceMul, Nat.reduceEqDiff]
    apply hJ0
    intro _
    refine .inr ⟨rfl, ?_⟩
    refine joinL.intro fun J2 hJ2 => ?_
    simp (disch := first | assumption | omega | (simp only [szR, rwC_len, rwC_all, rwsC_len, rwsC_all, ptC_len, ptC_all, pcC_len, pcC_all, loC_len, loC_all] <;> omega) | rfl | decide) only [gen0, gen1, gen2, rulesC, rulesX, litR, bolR, Nat.reduceAdd, Nat.reduceLeDiff, numR, memR, valR, heapR, updR, intR, decR, extR, slR, segR, thenR, pnR, Int.reduceToNat, Int.reduceAdd, Int.reduceSub, Int.reduceLT, Int.reduceLE, Nat.reduceSub, Nat.reduceMul, Nat.reduceEqDiff]
    apply hJ2
    intro _
    exact .inl ⟨rfl, hK⟩
/-- an instruction. -/
structure In where
  op : Nat
  rd : Nat
  r1 : Nat
  r2 : Nat
  im : Nat
def inC (i : In) : List Value := [.int .i64 (i.op : Nat), .int .i64 (i.rd : Nat), .int .i64 (i.r1 : Nat), .int .i64 (i.r2 : Nat), .int .i64 (i.im : Nat)]
theorem inC_len (i : In) : (inC i).length = 5 := by simp [inC]
theorem inC_all (i : In) : (inC i).all (fun v => v.oneCell') = true := by simp [inC]; exact ⟨rfl, rfl, rfl, rfl, rfl⟩
theorem inC_sub (i : In) : sub (inC i) 0 5 = inC i := rfl
/-- the instruction of a word whose row is k (its number laid, no sign). -/
def ofW (W k : Nat) (s : Nat) : In := ⟨k + 1, if s = 73 then W / 2 ^ 7 % 2 ^ 5 else 0, W / 2 ^ 15 % 2 ^ 5, if s = 83 then W / 2 ^ 20 % 2 ^ 5 else 0, (pcsOf s).foldl (pcN W) 0⟩
end Go.Proofs.YtplfniijbeinmaaGreat
