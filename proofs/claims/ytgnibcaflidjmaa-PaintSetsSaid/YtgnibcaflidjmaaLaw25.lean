/- What is painted, and then wiped, of another span is what neither of both has in common; conditions: those of each theorem. -/
import Derived.Test.YtgnibcaflidjmaaPaint6
import Derived.Test.YtgnibcaflidjmaaArgs
namespace Go.Proofs.Ytgnibcaflidjmaa
open Go.Fx Go.ChangeShapes Go.WideShapes
set_option maxRecDepth 100000
set_option linter.unusedSimpArgs false
set_option linter.unusedVariables false
theorem wf_u64 {n : Int} (h : (Lit.int .u64 n).wf = true) : 0 ≤ n ∧ n < 18446744073709551616 := by
  have : 0 ≤ n ∧ n ≤ 18446744073709551615 := by simpa [Lit.wf, IntKind.min, IntKind.max, IntKind.signed, IntKind.bits] using h
  omega
theorem rows2 {w : World} {E : TypeId} {f : Nat × Nat} {g : Nat} {p q : Nat × Nat} (h : w.heap[g]? = some (.cells (spC p ++ spC q).toArray E f)) : RowsAt w (.slice (some ⟨g, 0, none⟩) 2 2) 2 ([p, q].map spC) :=
  ⟨_, 2, rfl, ⟨Nat.le_refl _, by simp [maxLen]⟩, .inr ⟨g, 0, _, E, f, rfl, h, by simp [spC_len], fun i r hi => by
    match i, hi with
    | 0, hi => simp at hi; subst hi; simp [sub, spC]
    | 1, hi => simp at hi; subst hi; simp [sub, spC]⟩⟩
theorem argSpan {H : Type} {enc : TypeId × Value → H} {w : World} {base b0 : Nat} {spare : Nat → Bool} {held : Bool} {r : Reach} {v : Value} {d : DataW H} {ps : List MemPlace} (hval : Value.okWide Try.prog w r b0 47 v) (h : DataW.Trod enc Try.prog w base spare held 47 v d ps) :
    ∃ s : Nat × Nat, v = .agg (spC s).toArray ∧ spOk s := by
  simp only [Value.okWide, Try.underlying47] at hval
  obtain ⟨cs, rfl, -, -⟩ := hval
  obtain ⟨fuel, x, hx⟩ := agg_trod h
  have cc : Try.prog.cellsOf 47 = 2 := by kernel_rfl
  have cu : Try.prog.cellsOf 28 = 1 := by kernel_rfl
  have e : (Value.agg cs).cells.toList = cs.toList := by simp [Value.cells]
  rw [e] at hx
  have hl := (fields_of Try.underlying47 hx).1
  rw [cc] at hl
  obtain ⟨a, h0, w0⟩ := field_int Try.underlying47 hx 0 0 rfl Try.underlying28 cu
  obtain ⟨b, h1, w1⟩ := field_int Try.underlying47 hx 1 1 rfl Try.underlying28 cu
  have u0 := wf_u64 w0
  have u1 := wf_u64 w1
  obtain ⟨l⟩ := cs
  match l, hl with
  | [c0, c1], _ =>
    simp at h0 h1
    subst h0 h1
    refine ⟨(a.toNat, b.toNat), ?_, ?_, ?_⟩
    · have e0 : ((a.toNat : Nat) : Int) = a := by omega
      have e1 : ((b.toNat : Nat) : Int) = b := by omega
      simp [spC, e0, e1]
    · show a.toNat < _; omega
    · show b.toNat < _; omega
theorem psets_spec {w : World} {p q : Nat × Nat} (hp : spOk p) (hq : spOk q) {z : Int} (hz : 0 ≤ z ∧ z < 18446744073709551616) {K : Value → World → Prop} (hK : ∀ w', Ext [] w w' → K (.bool true) w') :
    callsK Try.prog 6 #[.agg (spC p).toArray, .agg (spC q).toArray, .int .u64 z] w K := by
  obtain ⟨a, rfl⟩ : ∃ a : Nat, z = (a : Int) := ⟨z.toNat, by omega⟩
  have ha : a < 18446744073709551616 := by omega
  clear hz
  apply F6_ok
  unfold F6
  have e1 : ∀ x : Value, sub [x] 0 1 = [x] := fun _ => rfl
  have e2 : ∀ s : Nat × Nat, sub (spC s) 0 2 = spC s := fun _ => rfl
  have e1b : ∀ x y : Value, splice [x] 0 [y] = [y] := fun _ _ => rfl
  obtain ⟨N, hN⟩ : ∃ N, N = 67108864 := ⟨_, rfl⟩
  have hN2 : 256 * N < 4611686018427387904 := by omega
  have hA := fun g => sp_small (s := p) (g := g) hN
  have hB := fun g => sp_small (s := q) (g := g) hN
  have hx0 : Ext [] w (((w.alloc (.cells (spC p).toArray 47)).alloc (.cells (spC q).toArray 47)).alloc (.cells [.map none].toArray 50)) := by (repeat first | assumption | exact Ext.refl | apply Ext.alloc | apply Ext.drew | (refine Ext.updN ?_ ?_; (focus first | omega | (simp only [szR] <;> omega))) | (refine Ext.updI ?_ ?_; (focus (simp; done))))
  simp (disch := first | assumption | omega | (simp only [szR, tgC_len, tgC_all, tsC_len, tsC_all, spC_len] <;> omega) | rfl | decide) only [gen0, gen1, gen2, rulesM, litR, bolR, Nat.reduceAdd, Nat.reduceLeDiff, numR, memR, valR, heapR, updR, intR, decR, extR, slR, segR, thenR, pnR, Int.reduceToNat, Int.reduceAdd, Int.reduceSub, Int.reduceLT, Int.reduceLE, Nat.reduceSub, Nat.reduceMul, Nat.reduceEqDiff]
  refine joinL.intro fun J0 hJ0 => ?_
  refine paint_region (b7 := w.heap.size + 2) (b3 := w.heap.size) (b4 := w.heap.size + 1) hp hq (by first | with_reducible rfl | assumption | (simp (disch := first | assumption | omega | (simp only [szR, tgC_len, tgC_all, tsC_len, tsC_all, spC_len] <;> omega) | rfl | decide) only [gen0, gen1, gen2, rulesM, litR, bolR, Nat.reduceAdd, Nat.reduceLeDiff, numR, memR, valR, heapR, updR, intR, decR, extR, slR, segR, thenR, pnR, Int.reduceToNat, Int.reduceAdd, Int.reduceSub, Int.reduceLT, Int.reduceLE, Nat.reduceSub, Nat.reduceMul, Nat.reduceEqDiff] <;> rfl)) (by first | with_reducible rfl | assumption | (simp (disch := first | assumption | omega | (simp only [szR, tgC_len, tgC_all, tsC_len, tsC_all, spC_len] <;> omega) | rfl | decide) only [gen0, gen1, gen2, rulesM, litR, bolR, Nat.reduceAdd, Nat.reduceLeDiff, numR, memR, valR, heapR, updR, intR, decR, extR, slR, segR, thenR, pnR, Int.reduceToNat, Int.reduceAdd, Int.reduceSub, Int.reduceLT, Int.reduceLE, Nat.reduceSub, Nat.reduceMul, Nat.reduceEqDiff] <;> rfl)) (by first | with_reducible rfl | assumption | (simp (disch := first | assumption | omega | (simp only [szR, tgC_len, tgC_all, tsC_len, tsC_all, spC_len] <;> omega) | rfl | decide) only [gen0, gen1, gen2, rulesM, litR, bolR, Nat.reduceAdd, Nat.reduceLeDiff, numR, memR, valR, heapR, updR, intR, decR, extR, slR, segR, thenR, pnR, Int.reduceToNat, Int.reduceAdd, Int.reduceSub, Int.reduceLT, Int.reduceLE, Nat.reduceSub, Nat.reduceMul, Nat.reduceEqDiff] <;> rfl)) rfl rfl rfl fun b8 b9 mx my w1 h8 h9 hx hy hx1 => ?_
  have h3 := hx1.at (b := w.heap.size) (o := .cells (spC p).toArray 47 (0, 0)) (by first | with_reducible rfl | assumption | (simp (disch := first | assumption | omega | (simp only [szR, tgC_len, tgC_all, tsC_len, tsC_all, spC_len] <;> omega) | rfl | decide) only [gen0, gen1, gen2, rulesM, litR, bolR, Nat.reduceAdd, Nat.reduceLeDiff, numR, memR, valR, heapR, updR, intR, decR, extR, slR, segR, thenR, pnR, Int.reduceToNat, Int.reduceAdd, Int.reduceSub, Int.reduceLT, Int.reduceLE, Nat.reduceSub, Nat.reduceMul, Nat.reduceEqDiff] <;> rfl)) (by simp)
  have h4 := hx1.at (b := w.heap.size + 1) (o := .cells (spC q).toArray 47 (0, 0)) (by first | with_reducible rfl | assumption | (simp (disch := first | assumption | omega | (simp only [szR, tgC_len, tgC_all, tsC_len, tsC_all, spC_len] <;> omega) | rfl | decide) only [gen0, gen1, gen2, rulesM, litR, bolR, Nat.reduceAdd, Nat.reduceLeDiff, numR, memR, valR, heapR, updR, intR, decR, extR, slR, segR, thenR, pnR, Int.reduceToNat, Int.reduceAdd, Int.reduceSub, Int.reduceLT, Int.reduceLE, Nat.reduceSub, Nat.reduceMul, Nat.reduceEqDiff] <;> rfl)) (by simp)
  have h7 := hx1.at (b := w.heap.size + 2) (o := .cells [.map none].toArray 50 (0, 0)) (by first | with_reducible rfl | assumption | (simp (disch := first | assumption | omega | (simp only [szR, tgC_len, tgC_all, tsC_len, tsC_all, spC_len] <;> omega) | rfl | decide) only [gen0, gen1, gen2, rulesM, litR, bolR, Nat.reduceAdd, Nat.reduceLeDiff, numR, memR, valR, heapR, updR, intR, decR, extR, slR, segR, thenR, pnR, Int.reduceToNat, Int.reduceAdd, Int.reduceSub, Int.reduceLT, Int.reduceLE, Nat.reduceSub, Nat.reduceMul, Nat.reduceEqDiff] <;> rfl)) (by simp)
  have hxa := hx0.trans hx1 (by simp)
  clear hx1 hx0
  apply hJ0
  intro _
  have lt7 := lt_of_at h7
  have lt3 := lt_of_at h3
  have lt4 := lt_of_at h4
  have hbs := bs2 (spC p) (spC q) rfl rfl
  simp (disch := first | assumption | omega | (simp only [szR, tgC_len, tgC_all, tsC_len, tsC_all, spC_len] <;> omega) | rfl | decide) only [gen0, gen1, gen2, rulesM, litR, bolR, Nat.reduceAdd, Nat.reduceLeDiff, numR, memR, valR, heapR, updR, intR, decR, extR, slR, segR, thenR, pnR, Int.reduceToNat, Int.reduceAdd, Int.reduceSub, Int.reduceLT, Int.reduceLE, Nat.reduceSub, Nat.reduceMul, Nat.reduceEqDiff, h7, h3, h4, e1, e2, hbs]
  have hxb : Ext [] w1 (w1.alloc (.cells (spC p ++ spC q).toArray 47)) := by (repeat first | assumption | exact Ext.refl | apply Ext.alloc | apply Ext.drew | (refine Ext.updN ?_ ?_; (focus first | omega | (simp only [szR] <;> omega))) | (refine Ext.updI ?_ ?_; (focus (simp; done))))
  have hrow : RowsAt (w1.alloc (.cells (spC p ++ spC q).toArray 47)) (.slice (some ⟨w1.heap.size, 0, none⟩) 2 2) 2 ([p, q].map spC) := rows2 (by first | with_reducible rfl | assumption | (simp (disch := first | assumption | omega | (simp only [szR, tgC_len, tgC_all, tsC_len, tsC_all, spC_len] <;> omega) | rfl | decide) only [gen0, gen1, gen2, rulesM, litR, bolR, Nat.reduceAdd, Nat.reduceLeDiff, numR, memR, valR, heapR, updR, intR, decR, extR, slR, segR, thenR, pnR, Int.reduceToNat, Int.reduceAdd, Int.reduceSub, Int.reduceLT, Int.reduceLE, Nat.reduceSub, Nat.reduceMul, Nat.reduceEqDiff] <;> rfl))
  refine paint_spec (bm_none _) hrow (by simp; exact ⟨hp, hq⟩) fun mb w2 hb hx2 => ?_
  replace hb : Bm w2 (some mb) fun g => sp p g || sp q g := by
    rw [List.foldl_cons, List.foldl_cons, List.foldl_nil, or_zero, or_two] at hb
    exact hb
  have hx3 : Ext [] w1 w2 := hxb.trans hx2 (by simp)
  have h82 := hx3.at h8 (by simp)
  have h42 := hx3.at h4 (by simp)
  have lt82 := lt_of_at h82
  have lt42 := lt_of_at h42
  simp (disch := first | assumption | omega | (simp only [szR, tgC_len, tgC_all, tsC_len, tsC_all, spC_len] <;> omega) | rfl | decide) only [gen0, gen1, gen2, rulesM, litR, bolR, Nat.reduceAdd, Nat.reduceLeDiff, numR, memR, valR, heapR, updR, intR, decR, extR, slR, segR, thenR, pnR, Int.reduceToNat, Int.reduceAdd, Int.reduceSub, Int.reduceLT, Int.reduceLE, Nat.reduceSub, Nat.reduceMul, Nat.reduceEqDiff, h82, h42, e1, e2, e1b]
  have hx4 : Ext [] w2 ((w2.alloc (.cells [.map (some mb)].toArray 50)).alloc (.cells (spC q).toArray 47)) := by (repeat first | assumption | exact Ext.refl | apply Ext.alloc | apply Ext.drew | (refine Ext.updN ?_ ?_; (focus first | omega | (simp only [szR] <;> omega))) | (refine Ext.updI ?_ ?_; (focus (simp; done))))
  refine wipe_spec (l := [q]) ((hx.ext0 hx3).ext0 hx4) (RowsAt.one (E := 47) (f := (0, 0)) (by first | with_reducible rfl | assumption | (simp (disch := first | assumption | omega | (simp only [szR, tgC_len, tgC_all, tsC_len, tsC_all, spC_len] <;> omega) | rfl | decide) only [gen0, gen1, gen2, rulesM, litR, bolR, Nat.reduceAdd, Nat.reduceLeDiff, numR, memR, valR, heapR, updR, intR, decR, extR, slR, segR, thenR, pnR, Int.reduceToNat, Int.reduceAdd, Int.reduceSub, Int.reduceLT, Int.reduceLE, Nat.reduceSub, Nat.reduceMul, Nat.reduceEqDiff] <;> rfl)) rfl) (by simpa using hq) fun mo w3 ho hx5 => ?_
  replace ho : Bm w3 (some mo) fun g => sp p g && !sp q g := by
    rw [List.foldl_cons, List.foldl_nil, less_two] at ho
    exact ho
  have h103 := hx5.at (b := w2.heap.size) (o := .cells [.map (some mb)].toArray 50 (0, 0)) (by first | with_reducible rfl | assumption | (simp (disch := first | assumption | omega | (simp only [szR, tgC_len, tgC_all, tsC_len, tsC_all, spC_len] <;> omega) | rfl | decide) only [gen0, gen1, gen2, rulesM, litR, bolR, Nat.reduceAdd, Nat.reduceLeDiff, numR, memR, valR, heapR, updR, intR, decR, extR, slR, segR, thenR, pnR, Int.reduceToNat, Int.reduceAdd, Int.reduceSub, Int.reduceLT, Int.reduceLE, Nat.reduceSub, Nat.reduceMul, Nat.reduceEqDiff] <;> rfl)) (by simp)
  have hx6 := hx4.trans hx5 (by simp)
  have hx7 := hx3.trans hx6 (by simp)
  have hb3 := hb.ext0 hx6
  simp (disch := first | assumption | omega | (simp only [szR, tgC_len, tgC_all, tsC_len, tsC_all, spC_len] <;> omega) | rfl | decide) only [gen0, gen1, gen2, rulesM, litR, bolR, Nat.reduceAdd, Nat.reduceLeDiff, numR, memR, valR, heapR, updR, intR, decR, extR, slR, segR, thenR, pnR, Int.reduceToNat, Int.reduceAdd, Int.reduceSub, Int.reduceLT, Int.reduceLE, Nat.reduceSub, Nat.reduceMul, Nat.reduceEqDiff, e1b]
  have hx8 : Ext [] w3 (w3.alloc (.cells [.map (some mo)].toArray 50)) := by (repeat first | assumption | exact Ext.refl | apply Ext.alloc | apply Ext.drew | (refine Ext.updN ?_ ?_; (focus first | omega | (simp only [szR] <;> omega))) | (refine Ext.updI ?_ ?_; (focus (simp; done))))
  have hx9 := hx7.trans hx8 (by simp)
  refine joinL.intro fun J2 hJ2 => ?_
  refine has_region (b8 := b8) (b9 := b9) (b10 := w2.heap.size) (b11 := w3.heap.size) ha rfl rfl (hx9.at h8 (by simp)) (hx9.at h9 (by simp)) (hx8.at h103 (by simp)) (by first | with_reducible rfl | assumption | (simp (disch := first | assumption | omega | (simp only [szR, tgC_len, tgC_all, tsC_len, tsC_all, spC_len] <;> omega) | rfl | decide) only [gen0, gen1, gen2, rulesM, litR, bolR, Nat.reduceAdd, Nat.reduceLeDiff, numR, memR, valR, heapR, updR, intR, decR, extR, slR, segR, thenR, pnR, Int.reduceToNat, Int.reduceAdd, Int.reduceSub, Int.reduceLT, Int.reduceLE, Nat.reduceSub, Nat.reduceMul, Nat.reduceEqDiff] <;> rfl)) (hx.ext0 hx9) (hy.ext0 hx9) (hb3.ext0 hx8) (ho.ext0 hx8) rfl rfl rfl rfl fun w4 hx10 => ?_
  have hx11 := hx8.trans hx10 (by simp)
  have hx12 := hx7.trans hx11 (by simp)
  have h84 := hx12.at h8 (by simp)
  have h34 := hx12.at h3 (by simp)
  have h114 := hx10.at (b := w3.heap.size) (o := .cells [.map (some mo)].toArray 50 (0, 0)) (by first | with_reducible rfl | assumption | (simp (disch := first | assumption | omega | (simp only [szR, tgC_len, tgC_all, tsC_len, tsC_all, spC_len] <;> omega) | rfl | decide) only [gen0, gen1, gen2, rulesM, litR, bolR, Nat.reduceAdd, Nat.reduceLeDiff, numR, memR, valR, heapR, updR, intR, decR, extR, slR, segR, thenR, pnR, Int.reduceToNat, Int.reduceAdd, Int.reduceSub, Int.reduceLT, Int.reduceLE, Nat.reduceSub, Nat.reduceMul, Nat.reduceEqDiff] <;> rfl)) (by simp)
  have h104 := hx11.at h103 (by simp)
  have lt84 := lt_of_at h84
  have lt34 := lt_of_at h34
  apply hJ2
  intro _
  simp (disch := first | assumption | omega | (simp only [szR, tgC_len, tgC_all, tsC_len, tsC_all, spC_len] <;> omega) | rfl | decide) only [gen0, gen1, gen2, rulesM, litR, bolR, Nat.reduceAdd, Nat.reduceLeDiff, numR, memR, valR, heapR, updR, intR, decR, extR, slR, segR, thenR, pnR, Int.reduceToNat, Int.reduceAdd, Int.reduceSub, Int.reduceLT, Int.reduceLE, Nat.reduceSub, Nat.reduceMul, Nat.reduceEqDiff, h84, h34, e1, e2]
  have hx13 : Ext [] w4 (w4.alloc (.cells (spC p).toArray 47)) := by (repeat first | assumption | exact Ext.refl | apply Ext.alloc | apply Ext.drew | (refine Ext.updN ?_ ?_; (focus first | omega | (simp only [szR] <;> omega))) | (refine Ext.updI ?_ ?_; (focus (simp; done))))
  refine paint_spec (l := [p]) ((hx.ext0 hx12).ext0 hx13) (RowsAt.one (E := 47) (f := (0, 0)) (by first | with_reducible rfl | assumption | (simp (disch := first | assumption | omega | (simp only [szR, tgC_len, tgC_all, tsC_len, tsC_all, spC_len] <;> omega) | rfl | decide) only [gen0, gen1, gen2, rulesM, litR, bolR, Nat.reduceAdd, Nat.reduceLeDiff, numR, memR, valR, heapR, updR, intR, decR, extR, slR, segR, thenR, pnR, Int.reduceToNat, Int.reduceAdd, Int.reduceSub, Int.reduceLT, Int.reduceLE, Nat.reduceSub, Nat.reduceMul, Nat.reduceEqDiff] <;> rfl)) rfl) (by simpa using hp) fun mt w5 ht hx14 => ?_
  replace ht : Bm w5 (some mt) (sp p) := by
    rw [List.foldl_cons, List.foldl_nil, or_same] at ht
    exact ht
  simp (disch := first | assumption | omega | (simp only [szR, tgC_len, tgC_all, tsC_len, tsC_all, spC_len] <;> omega) | rfl | decide) only [gen0, gen1, gen2, rulesM, litR, bolR, Nat.reduceAdd, Nat.reduceLeDiff, numR, memR, valR, heapR, updR, intR, decR, extR, slR, segR, thenR, pnR, Int.reduceToNat, Int.reduceAdd, Int.reduceSub, Int.reduceLT, Int.reduceLE, Nat.reduceSub, Nat.reduceMul, Nat.reduceEqDiff, e1b]
  have hx15 : Ext [] w5 (w5.alloc (.cells [.map (some mt)].toArray 50)) := by (repeat first | assumption | exact Ext.refl | apply Ext.alloc | apply Ext.drew | (refine Ext.updN ?_ ?_; (focus first | omega | (simp only [szR] <;> omega))) | (refine Ext.updI ?_ ?_; (focus (simp; done))))
  have hx16 := (hx13.trans hx14 (by simp)).trans hx15 (by simp)
  have hx17 := hx12.trans hx16 (by simp)
  have hO : ∀ g, 256 * N ≤ g → (fun g => sp p g && !sp q g) g = false := fun g hg => by simp [hA g hg]
  have ho4 := ho.ext0 hx11
  have hb4 := hb3.ext0 hx11
  refine joinL.intro fun J4 hJ4 => ?_
  refine count_region (b8 := b8) (b9 := b9) (b11 := w3.heap.size) hN2 hA hO (hx17.at h8 (by simp)) (hx16.at h114 (by simp)) (hx.ext0 hx17) (ho4.ext0 hx16) rfl rfl fun w6 hx18 => ?_
  apply hJ4
  have hx19 := hx16.trans hx18 (by simp)
  have hx20 := hx17.trans hx18 (by simp)
  have h126 := hx18.at (b := w5.heap.size) (o := .cells [.map (some mt)].toArray 50 (0, 0)) (by first | with_reducible rfl | assumption | (simp (disch := first | assumption | omega | (simp only [szR, tgC_len, tgC_all, tsC_len, tsC_all, spC_len] <;> omega) | rfl | decide) only [gen0, gen1, gen2, rulesM, litR, bolR, Nat.reduceAdd, Nat.reduceLeDiff, numR, memR, valR, heapR, updR, intR, decR, extR, slR, segR, thenR, pnR, Int.reduceToNat, Int.reduceAdd, Int.reduceSub, Int.reduceLT, Int.reduceLE, Nat.reduceSub, Nat.reduceMul, Nat.reduceEqDiff] <;> rfl)) (by simp)
  exact last_region (b4 := w.heap.size + 1) (b7 := w.heap.size + 2) (b8 := b8) (b9 := b9) (b10 := w2.heap.size) (b11 := w3.heap.size) (b12 := w5.heap.size) hq rfl hN2 hA hB (hx20.at h4 (by simp)) (hx20.at h7 (by simp)) (hx20.at h8 (by simp)) (hx20.at h9 (by simp)) (hx19.at h104 (by simp)) (hx19.at h114 (by simp)) h126 (hx.ext0 hx20) (hy.ext0 hx20) (hb4.ext0 hx19) (ho4.ext0 hx19) (ht.ext0 (hx15.trans hx18 (by simp))) rfl rfl rfl rfl rfl rfl fun w7 hx21 => hK w7 (hxa.trans (hx20.trans hx21 (by simp)) (by simp))
end Go.Proofs.Ytgnibcaflidjmaa
