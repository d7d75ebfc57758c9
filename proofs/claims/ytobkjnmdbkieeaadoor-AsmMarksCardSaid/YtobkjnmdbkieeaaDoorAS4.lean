/- Instructions' texts; conditions: those of each theorem. -/
import Derived.Test.YtobkjnmdbkieeaaDoorAS3
namespace Go.Proofs.YtobkjnmdbkieeaaDoor
open Go.Fx
set_option maxRecDepth 100000
set_option linter.unusedSimpArgs false
set_option linter.unusedVariables false
theorem appT {base : Nat} {v x : Value} {rows rows2 : List (List Value)} {w : World} {K : Value → World → Prop} (hown : OwnR w base 9 1 v rows) (hx : RowsAt w x 1 rows2) (h1 : ∀ r ∈ rows2, r.all (fun v => v.oneCell') = true)
    (hl : rows.length + rows2.length ≤ 1000000) (hbase : base ≤ w.heap.size) (hK : ∀ v' w', OwnR w' base 9 1 v' (rows ++ rows2) → App base v w w' → K v' w') : resV K ((Builtin.append_ #[38, 38] 38 #[v, x]).run Tryd.prog w) :=
  kV_appR Tryd.underlying38 (by kernel_rfl) (by omega) (bytes := 16) hown hx h1 (by simp only [maxLen]; omega) (by omega) hbase hK
/-- texts that are put together in a variable at bx. -/
structure Acc (w0 w4 w : World) (bx : Nat) (v : Value) (L : List (List UInt8)) : Prop where
  box : w.heap[bx]? = some (.cells [v].toArray 38 (0, 0))
  own : OwnR w w4.heap.size 9 1 v (L.map sC)
  low : w0.heap.size ≤ bx
  lt : bx < w4.heap.size
  ext : Ext [] w0 w
  ext4 : Ext [bx] w4 w
theorem Acc.stay {w0 w4 w w' : World} {bx : Nat} {v : Value} {L : List (List UInt8)} (h : Acc w0 w4 w bx v L) (hx : Ext [] w w') : Acc w0 w4 w' bx v L :=
  ⟨hx.at h.box (by simp), h.own.ext hx (by simp), h.low, h.lt, h.ext.trans hx (by simp), h.ext4.trans hx (by simp)⟩
theorem Acc.push {w0 w4 w w' : World} {bx : Nat} {v v' : Value} {L : List (List UInt8)} {s : List UInt8} (h : Acc w0 w4 w bx v L) (ho : OwnR w' w4.heap.size 9 1 v' ((L ++ [s]).map sC)) (ha : App w4.heap.size v w w') : Acc w0 w4 (World.upd w' bx [v']) bx v' (L ++ [s]) := by
  have hb := h.box
  have lb := lt_of_at hb
  have hlow := h.low
  have hlt := h.lt
  have hbv : blockOf v ≠ some bx := fun e => by
    have := h.own.block bx e
    omega
  have hb' : w'.heap[bx]? = some (.cells [v].toArray 38 (0, 0)) := (ha.kept bx lb hbv).trans hb
  have hx' := ha.ext w0 [] (by omega) h.ext
  have hx4 := ha.ext w4 [bx] (Nat.le_refl _) h.ext4
  have hx2 : Ext [bx] w' (World.upd w' bx [v']) := Ext.updI (by simp) Ext.refl
  refine ⟨upd_at hb', ho.ext hx2 fun b hb2 => ?_, hlow, hlt, ?_, hx4.trans hx2 (by intro k hk; simp at hk; simp [hk])⟩
  · have := ho.block b hb2
    simp
    omega
  · exact hx'.trans hx2 (by intro k hk; simp at hk; omega)
theorem dec_len {n : Int} : (dec n).length ≤ 21 := by
  unfold dec
  split
  · have := decF_len 20 n.natAbs
    simp [decN]
    omega
  · have := decF_len 20 n.natAbs
    simp [decN]
    omega
theorem reg_spec {w0 w4 w : World} {bx : Nat} {v : Value} {L : List (List UInt8)} {n : Int} (hn : in64 n) (h : Acc w0 w4 w bx v L) (hl : L.length ≤ 1000) {K : Value → World → Prop}
    (hK : ∀ v' w', Acc w0 w4 w' bx v' (L ++ [99 :: dec n]) → K (.tuple #[]) w') : callsK Tryd.prog 20 #[.int .i64 n, .pointer (some ⟨bx, 0, none⟩)] w K := by
  apply F20_ok
  unfold F20
  have hd := dec_len (n := n)
  have hadd : ∀ (x y : Operand) (w : World), (binV .add 9 x y (.string ⟨#[99]⟩) (.string ⟨(dec n).toArray⟩)).run Tryd.prog w = .ok (.string ⟨(99 :: dec n).toArray⟩) w := addS (a := [99]) (b := dec n) (by simp; omega)
  have h1 := h.box
  simp (disch := first | assumption | omega | (simp only [szR, izC_len, izC_all] <;> omega) | rfl | decide) only [gen0, gen1, gen2, rulesC, rulesX, rulesA, litR, bolR, Nat.reduceAdd, Nat.reduceLeDiff, numR, memR, valR, heapR, updR, intR, decR, extR, slR, segR, thenR, pnR, Int.reduceToNat, Int.reduceAdd, Int.reduceSub, Int.reduceLT, Int.reduceLE, Nat.reduceSub, Nat.reduceMul, Nat.reduceEqDiff, h1]
  refine ⟨?_, ?_⟩
  · refine digits_spec hn fun w2 hx2 => ?_
    have h2 := (h.stay (Ext.trans (S := []) (by (repeat first | assumption | exact Ext.refl | apply Ext.alloc | apply Ext.drew | (refine Ext.updN ?_ ?_; (focus first | omega | (simp only [szR] <;> omega))) | (refine Ext.updI ?_ ?_; (focus (simp; done))))) hx2 (by simp)))
    have h3 : Acc w0 w4 (w2.alloc (.cells [.string ⟨(99 :: dec n).toArray⟩].toArray 9)) bx v L := h2.stay (by (repeat first | assumption | exact Ext.refl | apply Ext.alloc | apply Ext.drew | (refine Ext.updN ?_ ?_; (focus first | omega | (simp only [szR] <;> omega))) | (refine Ext.updI ?_ ?_; (focus (simp; done)))))
    have b2 := h2.box
    have b3 := h3.box
    have l3 := lt_of_at b3
    simp (disch := first | assumption | omega | (simp only [szR, izC_len, izC_all] <;> omega) | rfl | decide) only [gen0, gen1, gen2, rulesC, rulesX, rulesA, litR, bolR, Nat.reduceAdd, Nat.reduceLeDiff, numR, memR, valR, heapR, updR, intR, decR, extR, slR, segR, thenR, pnR, Int.reduceToNat, Int.reduceAdd, Int.reduceSub, Int.reduceLT, Int.reduceLE, Nat.reduceSub, Nat.reduceMul, Nat.reduceEqDiff, hadd, b2, b3, and_self]
    refine appT h3.own (rows2 := [sC (99 :: dec n)]) (OwnR.fresh (base := 0) rfl rfl (Nat.zero_le _)).rows (by intro r hr; simp at hr; subst hr; rfl) (by simp; omega) (by have := h3.ext4.size; omega) fun v8 w5 ho ha => ?_
    rw [show L.map sC ++ [sC (99 :: dec n)] = (L ++ [99 :: dec n]).map sC by simp] at ho
    obtain ⟨a8, c8, hv8⟩ := ho.rows.len
    generalize ((L ++ [99 :: dec n]).map sC).length = n8 at hv8
    subst hv8
    have hP := h3.push ho ha
    have hb4 : w5.heap[bx]? = some (.cells [v].toArray 38 (0, 0)) := (ha.kept bx l3 (fun e => by have := h3.own.block bx e; have := h3.lt; omega)).trans b3
    have l4 := lt_of_at hb4
    simp (disch := first | assumption | omega | (simp only [szR, izC_len, izC_all] <;> omega) | rfl | decide) only [gen0, gen1, gen2, rulesC, rulesX, rulesA, litR, bolR, Nat.reduceAdd, Nat.reduceLeDiff, numR, memR, valR, heapR, updR, intR, decR, extR, slR, segR, thenR, pnR, Int.reduceToNat, Int.reduceAdd, Int.reduceSub, Int.reduceLT, Int.reduceLE, Nat.reduceSub, Nat.reduceMul, Nat.reduceEqDiff, hb4, List.set_cons_zero]
    exact hK _ _ hP
  · refine digits_spec hn fun w2 hx2 => ?_
    have h2 := (h.stay (Ext.trans (S := []) (by (repeat first | assumption | exact Ext.refl | apply Ext.alloc | apply Ext.drew | (refine Ext.updN ?_ ?_; (focus first | omega | (simp only [szR] <;> omega))) | (refine Ext.updI ?_ ?_; (focus (simp; done))))) hx2 (by simp)))
    have h3 : Acc w0 w4 (w2.alloc (.cells [.string ⟨(99 :: dec n).toArray⟩].toArray 9)) bx v L := h2.stay (by (repeat first | assumption | exact Ext.refl | apply Ext.alloc | apply Ext.drew | (refine Ext.updN ?_ ?_; (focus first | omega | (simp only [szR] <;> omega))) | (refine Ext.updI ?_ ?_; (focus (simp; done)))))
    have b2 := h2.box
    have b3 := h3.box
    have l3 := lt_of_at b3
    simp (disch := first | assumption | omega | (simp only [szR, izC_len, izC_all] <;> omega) | rfl | decide) only [gen0, gen1, gen2, rulesC, rulesX, rulesA, litR, bolR, Nat.reduceAdd, Nat.reduceLeDiff, numR, memR, valR, heapR, updR, intR, decR, extR, slR, segR, thenR, pnR, Int.reduceToNat, Int.reduceAdd, Int.reduceSub, Int.reduceLT, Int.reduceLE, Nat.reduceSub, Nat.reduceMul, Nat.reduceEqDiff, hadd, b2, b3, and_self]
    refine appT h3.own (rows2 := [sC (99 :: dec n)]) (OwnR.fresh (base := 0) rfl rfl (Nat.zero_le _)).rows (by intro r hr; simp at hr; subst hr; rfl) (by simp; omega) (by have := h3.ext4.size; omega) fun v8 w5 ho ha => ?_
    rw [show L.map sC ++ [sC (99 :: dec n)] = (L ++ [99 :: dec n]).map sC by simp] at ho
    obtain ⟨a8, c8, hv8⟩ := ho.rows.len
    generalize ((L ++ [99 :: dec n]).map sC).length = n8 at hv8
    subst hv8
    have hP := h3.push ho ha
    have hb4 : w5.heap[bx]? = some (.cells [v].toArray 38 (0, 0)) := (ha.kept bx l3 (fun e => by have := h3.own.block bx e; have := h3.lt; omega)).trans b3
    have l4 := lt_of_at hb4
    simp (disch := first | assumption | omega | (simp only [szR, izC_len, izC_all] <;> omega) | rfl | decide) only [gen0, gen1, gen2, rulesC, rulesX, rulesA, litR, bolR, Nat.reduceAdd, Nat.reduceLeDiff, numR, memR, valR, heapR, updR, intR, decR, extR, slR, segR, thenR, pnR, Int.reduceToNat, Int.reduceAdd, Int.reduceSub, Int.reduceLT, Int.reduceLE, Nat.reduceSub, Nat.reduceMul, Nat.reduceEqDiff, hb4, List.set_cons_zero]
    exact hK _ _ hP
end Go.Proofs.YtobkjnmdbkieeaaDoor
