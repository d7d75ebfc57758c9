/- The document's tables: a page cleared; conditions: those of each theorem. -/
import Derived.Test.YtfpcflmgipklcaaTRef2
namespace Go.Proofs.Ytfpcflmgipklcaa
open Go.Fx
set_option maxRecDepth 100000
set_option linter.unusedSimpArgs false
set_option linter.unusedVariables false
theorem appU {base : Nat} {v x : Value} {rows rows2 : List (List Value)} {w : World} {K : Value → World → Prop} (hown : OwnR w base 23 1 v rows) (hx : RowsAt w x 1 rows2) (h1 : ∀ r ∈ rows2, r.all (fun v => v.oneCell') = true)
    (hl : rows.length + rows2.length ≤ 1000000) (hbase : base ≤ w.heap.size) (hK : ∀ v' w', OwnR w' base 23 1 v' (rows ++ rows2) → App base v w w' → K v' w') : resV K ((Builtin.append_ #[34, 34] 34 #[v, x]).run Try.prog w) :=
  kV_appR Try.underlying34 (by kernel_rfl) (by omega) (bytes := 8) hown hx h1 (by simp only [maxLen]; omega) (by omega) hbase hK
theorem appE {base : Nat} {v x : Value} {rows rows2 : List (List Value)} {w : World} {K : Value → World → Prop} (hown : OwnR w base 46 13 v rows) (hx : RowsAt w x 13 rows2) (h1 : ∀ r ∈ rows2, r.all (fun v => v.oneCell') = true)
    (hl : rows.length + rows2.length ≤ 1000000) (hbase : base ≤ w.heap.size) (hK : ∀ v' w', OwnR w' base 46 13 v' (rows ++ rows2) → App base v w w' → K v' w') : resV K ((Builtin.append_ #[35, 35] 35 #[v, x]).run Try.prog w) :=
  kV_appR Try.underlying35 (by kernel_rfl) (by omega) (bytes := 24) hown hx h1 (by simp only [maxLen]; omega) (by omega) hbase hK
theorem own_ne' {w : World} {base b n : Nat} {E0 : TypeId} {v : Value} {rows : List (List Value)} (h : OwnR w base E0 n v rows) {l : Array Value} {E : TypeId} (hb : w.heap[b]? = some (.cells l E (0, 0))) (hE : E ≠ E0) : blockOf v ≠ some b := by
  intro hv
  obtain ⟨-, ⟨rfl, -⟩ | ⟨g, cap, cur, rfl, -, hg, -⟩⟩ := h.own
  · cases hv
  · cases hv
    exact at_ne hg hb (fun e => hE e.symm) rfl
theorem own_at' {w : World} {base b n : Nat} {E0 : TypeId} {v : Value} {rows : List (List Value)} (h : OwnR w base E0 n v rows) (hv : blockOf v = some b) : ∃ l : Array Value, w.heap[b]? = some (.cells l E0 (0, 0)) := by
  obtain ⟨-, ⟨rfl, -⟩ | ⟨g, cap, cur, rfl, -, hg, -⟩⟩ := h.own
  · cases hv
  · cases hv
    exact ⟨_, hg⟩
theorem uC_all (k : Nat) : (uC k).all (fun v => v.oneCell') = true := rfl
theorem tv_drop (v0 v1 v2 v3 u0 u1 u2 u3 : Value) : tvC v0 v1 v2 v3 ++ List.drop (tvC v0 v1 v2 v3).length (tvC u0 u1 u2 u3) = tvC v0 v1 v2 v3 := by simp [tvC]
theorem tv_lit (v2 v3 u0 u1 u2 u3 : Value) : .slice none 0 0 :: .slice none 0 0 :: v2 :: v3 :: List.drop 4 (tvC u0 u1 u2 u3) = tvC (.slice none 0 0) (.slice none 0 0) v2 v3 := by simp [tvC]
theorem tv_set0 (v0 v1 v2 v3 v : Value) : (tvC v0 v1 v2 v3).set 0 v = tvC v v1 v2 v3 := rfl
theorem tv_set1 (v0 v1 v2 v3 v : Value) : (tvC v0 v1 v2 v3).set 1 v = tvC v0 v v2 v3 := rfl
theorem tv_set2 (v0 v1 v2 v3 v : Value) : (tvC v0 v1 v2 v3).set 2 v = tvC v0 v1 v v3 := rfl
theorem tv_set3 (v0 v1 v2 v3 v : Value) : (tvC v0 v1 v2 v3).set 3 v = tvC v0 v1 v2 v := rfl
def clr (R : RT) (k : Nat) : RT := ⟨R.ps.filter (fun p => !(p.1 == k)), R.mid, R.low⟩
set_option maxHeartbeats 1000000
theorem rclear_spec {w : World} {v0 v1 v2 v3 : Value} {R : RT} (h : RefT w v0 v1 v2 v3 R) (hn : R.ps.length < 100000) {va : Nat} (hva : va < 18446744073709551616) {K : Value → World → Prop}
    (hno : ¬ va < 274877906944 → ∀ w', Ext [] w w' → K (.tuple #[.agg (tvC v0 v1 v2 v3).toArray, .int .i64 2]) w')
    (hK : va < 274877906944 → ∀ u0 u1 w', RefT w' u0 u1 v2 v3 (clr R (va / 4096)) → Ext [] w w' → K (.tuple #[.agg (tvC u0 u1 v2 v3).toArray, .int .i64 0]) w') :
    callsK Try.prog 13 #[.agg (tvC v0 v1 v2 v3).toArray, .int .u64 (va : Nat)] w K := by
  obtain ⟨a0, a1, a2, a3, c0, c1, c2, c3, rfl, rfl, rfl, rfl⟩ := h.slices
  have hlen := h.ps.rows.lenR (ty := 3) Try.underlying34
  rw [List.length_map] at hlen
  have hz : ([.slice none 0 0, .slice none 0 0, .slice none 0 0, .slice none 0 0] : List Value) = tvC (.slice none 0 0) (.slice none 0 0) (.slice none 0 0) (.slice none 0 0) := rfl
  apply F13_ok
  unfold F13
  by_cases hlt : va < 274877906944
  case neg =>
    have e1 : decide ((274877906944 : Int) ≤ ((va : Nat) : Int)) = true := decide_eq_true (by omega)
    simp (disch := first | assumption | omega | (simp only [szR, entC_len, entC_all, tvC_len, tvC_all] <;> omega) | rfl | decide) only [gen0, gen1, gen2, rulesM, rulesT, rulesQ, litR, bolR, Nat.reduceAdd, Nat.reduceLeDiff, numR, memR, valR, heapR, updR, intR, decR, extR, slR, segR, thenR, pnR, Int.reduceToNat, Int.reduceAdd, Int.reduceSub, Int.reduceLT, Int.reduceLE, Nat.reduceSub, Nat.reduceMul, Nat.reduceEqDiff, e1, hz, tvC_sub, tv_drop]
    exact hno hlt _ (by (repeat first | assumption | exact Ext.refl | apply Ext.alloc | apply Ext.drew | (refine Ext.updN ?_ ?_; (focus first | omega | (simp only [szR] <;> omega))) | (refine Ext.updI ?_ ?_; (focus (simp; done)))))
  case pos =>
    have e1 : decide ((274877906944 : Int) ≤ ((va : Nat) : Int)) = false := decide_eq_false (by omega)
    simp (disch := first | assumption | omega | (simp only [szR, entC_len, entC_all, tvC_len, tvC_all] <;> omega) | rfl | decide) only [gen0, gen1, gen2, rulesM, rulesT, rulesQ, litR, bolR, Nat.reduceAdd, Nat.reduceLeDiff, numR, memR, valR, heapR, updR, intR, decR, extR, slR, segR, thenR, pnR, Int.reduceToNat, Int.reduceAdd, Int.reduceSub, Int.reduceLT, Int.reduceLE, Nat.reduceSub, Nat.reduceMul, Nat.reduceEqDiff, e1, hz, tvC_2, tvC_3, tv_lit]
    obtain ⟨W, hW⟩ : ∃ W, W = ((w.alloc (.cells (tvC (.slice a0 R.ps.length c0) (.slice a1 R.ps.length c1) (.slice a2 R.mid.length c2) (.slice a3 R.low.length c3)).toArray 37)).alloc (.cells (tvC (.slice none 0 0) (.slice none 0 0) (.slice none 0 0) (.slice none 0 0)).toArray 37)).alloc (.cells (tvC (.slice none 0 0) (.slice none 0 0) (.slice a2 R.mid.length c2) (.slice a3 R.low.length c3)).toArray 37) := ⟨_, rfl⟩
    rw [← hW]
    have hxW : Ext [] w W := by rw [hW]; (repeat first | assumption | exact Ext.refl | apply Ext.alloc | apply Ext.drew | (refine Ext.updN ?_ ?_; (focus first | omega | (simp only [szR] <;> omega))) | (refine Ext.updI ?_ ?_; (focus (simp; done))))
    have hB : W.heap[w.heap.size]? = some (.cells (tvC (.slice a0 R.ps.length c0) (.slice a1 R.ps.length c1) (.slice a2 R.mid.length c2) (.slice a3 R.low.length c3)).toArray 37 (0, 0)) := by rw [hW]; simp (disch := first | assumption | omega | (simp only [szR, entC_len, entC_all, tvC_len, tvC_all] <;> omega) | rfl | decide) only [gen0, gen1, gen2, rulesM, rulesT, rulesQ, litR, bolR, Nat.reduceAdd, Nat.reduceLeDiff, numR, memR, valR, heapR, updR, intR, decR, extR, slR, segR, thenR, pnR, Int.reduceToNat, Int.reduceAdd, Int.reduceSub, Int.reduceLT, Int.reduceLE, Nat.reduceSub, Nat.reduceMul, Nat.reduceEqDiff]
    have hC : W.heap[w.heap.size + 1]? = some (.cells (tvC (.slice none 0 0) (.slice none 0 0) (.slice none 0 0) (.slice none 0 0)).toArray 37 (0, 0)) := by rw [hW]; simp (disch := first | assumption | omega | (simp only [szR, entC_len, entC_all, tvC_len, tvC_all] <;> omega) | rfl | decide) only [gen0, gen1, gen2, rulesM, rulesT, rulesQ, litR, bolR, Nat.reduceAdd, Nat.reduceLeDiff, numR, memR, valR, heapR, updR, intR, decR, extR, slR, segR, thenR, pnR, Int.reduceToNat, Int.reduceAdd, Int.reduceSub, Int.reduceLT, Int.reduceLE, Nat.reduceSub, Nat.reduceMul, Nat.reduceEqDiff]
    have hD : W.heap[w.heap.size + 1 + 1]? = some (.cells (tvC (.slice none 0 0) (.slice none 0 0) (.slice a2 R.mid.length c2) (.slice a3 R.low.length c3)).toArray 37 (0, 0)) := by rw [hW]; simp (disch := first | assumption | omega | (simp only [szR, entC_len, entC_all, tvC_len, tvC_all] <;> omega) | rfl | decide) only [gen0, gen1, gen2, rulesM, rulesT, rulesQ, litR, bolR, Nat.reduceAdd, Nat.reduceLeDiff, numR, memR, valR, heapR, updR, intR, decR, extR, slR, segR, thenR, pnR, Int.reduceToNat, Int.reduceAdd, Int.reduceSub, Int.reduceLT, Int.reduceLE, Nat.reduceSub, Nat.reduceMul, Nat.reduceEqDiff]
    have hRW := h.ext hxW (by simp)
    have hsW := lt_of_at hD
    clear hW
    have e2 : ((va : Nat) : Int) / 4096 = ((va / 4096 : Nat) : Int) := by omega
    generalize va / 4096 = k at *
    refine loopT.intro (fun st w' => ∃ (i : Nat) (u0 u1 : Value), i ≤ R.ps.length ∧ st = [.int .i64 (i : Nat)] ∧ OwnR w' W.heap.size 23 1 u0 (((R.ps.take i).filter (fun p => !(p.1 == k))).map fun p => uC p.1) ∧ OwnR w' W.heap.size 46 13 u1 (((R.ps.take i).filter (fun p => !(p.1 == k))).map fun p => entE p.2) ∧ w'.heap[w.heap.size + 1 + 1]? = some (.cells (tvC u0 u1 (.slice a2 R.mid.length c2) (.slice a3 R.low.length c3)).toArray 37 (0, 0)) ∧ Ext [w.heap.size + 1 + 1] W w')
      (fun st _ => match st with
        | [.int _ z] => R.ps.length - z.toNat
        | _ => 0) ⟨0, .slice none 0 0, .slice none 0 0, Nat.zero_le _, rfl, OwnR.nil, OwnR.nil, hD, Ext.refl⟩ ?_
    rintro st w1 ⟨i, u0, u1, hi, rfl, ho0, ho1, hD1, hx1⟩ _
    have hB1 := hx1.at hB (by simp; omega)
    have hC1 := hx1.at hC (by simp)
    have lD1 := lt_of_at hD1
    have lB1 := lt_of_at hB1
    have lC1 := lt_of_at hC1
    have hs1 := hx1.size
    by_cases hil : i < R.ps.length
    · obtain ⟨x, hx⟩ : ∃ x, x = R.ps[i] := ⟨_, rfl⟩
      have hxi : R.ps[i]? = some x := by rw [hx]; simp [hil]
      have hR1 : OwnR w1 0 23 1 (.slice a0 R.ps.length c0) (R.ps.map fun p => uC p.1) := hRW.ps.ext hx1 fun b hb hm => own_ne' hRW.ps hD (by decide) (by rw [List.mem_singleton.1 hm] at hb; exact hb)
      have hE1 : OwnR w1 0 46 13 (.slice a1 R.ps.length c1) (R.ps.map fun p => entE p.2) := hRW.es.ext hx1 fun b hb hm => own_ne' hRW.es hD (by decide) (by rw [List.mem_singleton.1 hm] at hb; exact hb)
      obtain ⟨b, o, L, E, ff, hix, hb, hfit, hlt, hblk, hsub, hget⟩ := RowsAt.ixR (P := Try.prog) (t := 34) Try.underlying34 Try.sizeOf23 hR1.rows (k := i) (r := uC x.1) (by rw [List.getElem?_map, hxi]; rfl)
      have hg0 := hget o 0 (by omega) (by omega)
      simp only [uC, List.getElem?_cons_zero] at hg0
      have hix' : ∀ w, (Instr.indexAt 34 (.slice a0 R.ps.length c0) (.int .i64 (i : Nat))).run Try.prog w = .ok (.pointer (some ⟨b, o, none⟩)) w := fun w => hix w .i64 i rfl
      have e3 : decide (((i : Nat) : Int) < ((R.ps.length : Nat) : Int)) = true := decide_eq_true (by omega)
      simp (disch := first | assumption | omega | (simp only [szR, entC_len, entC_all, tvC_len, tvC_all] <;> omega) | rfl | decide) only [gen0, gen1, gen2, rulesM, rulesT, rulesQ, litR, bolR, Nat.reduceAdd, Nat.reduceLeDiff, numR, memR, valR, heapR, updR, intR, decR, extR, slR, segR, thenR, pnR, Int.reduceToNat, Int.reduceAdd, Int.reduceSub, Int.reduceLT, Int.reduceLE, Nat.reduceSub, Nat.reduceMul, Nat.reduceEqDiff, hB1, tvC_0, hlen, e3]
      refine joinL.intro fun J3 hJ3 => ?_
      have hstep : (R.ps.take (i + 1)).filter (fun p => !(p.1 == k)) = (R.ps.take i).filter (fun p => !(p.1 == k)) ++ (if x.1 = k then [] else [x]) := by
        rw [List.take_succ_eq_append_getElem hil, ← hx, List.filter_append]
        congr 1
        by_cases hk : x.1 = k
        · rw [if_pos hk]
          simp [hk]
        · rw [if_neg hk]
          simp [hk]
      have hnext : ∀ w' u0' u1', OwnR w' W.heap.size 23 1 u0' (((R.ps.take (i + 1)).filter (fun p => !(p.1 == k))).map fun p => uC p.1) → OwnR w' W.heap.size 46 13 u1' (((R.ps.take (i + 1)).filter (fun p => !(p.1 == k))).map fun p => entE p.2) → w'.heap[w.heap.size + 1 + 1]? = some (.cells (tvC u0' u1' (.slice a2 R.mid.length c2) (.slice a3 R.low.length c3)).toArray 37 (0, 0)) → Ext [w.heap.size + 1 + 1] W w' → J3 [] w' := by
        intro w' u0' u1' g0 g1 g2 g3
        apply hJ3
        intro _
        simp (disch := first | assumption | omega | (simp only [szR, entC_len, entC_all, tvC_len, tvC_all] <;> omega) | rfl | decide) only [gen0, gen1, gen2, rulesM, rulesT, rulesQ, litR, bolR, Nat.reduceAdd, Nat.reduceLeDiff, numR, memR, valR, heapR, updR, intR, decR, extR, slR, segR, thenR, pnR, Int.reduceToNat, Int.reduceAdd, Int.reduceSub, Int.reduceLT, Int.reduceLE, Nat.reduceSub, Nat.reduceMul, Nat.reduceEqDiff]
        exact ⟨⟨i + 1, u0', u1', by omega, rfl, g0, g1, g2, g3⟩, by omega⟩
      clear hJ3
      by_cases hk : x.1 = k
      · have e4 : decide (((x.1 : Nat) : Int) = ((k : Nat) : Int)) = true := decide_eq_true (by omega)
        rw [hstep, if_pos hk, List.append_nil] at hnext
        simp (disch := first | assumption | omega | (simp only [szR, entC_len, entC_all, tvC_len, tvC_all] <;> omega) | rfl | decide) only [gen0, gen1, gen2, rulesM, rulesT, rulesQ, litR, bolR, Nat.reduceAdd, Nat.reduceLeDiff, numR, memR, valR, heapR, updR, intR, decR, extR, slR, segR, thenR, pnR, Int.reduceToNat, Int.reduceAdd, Int.reduceSub, Int.reduceLT, Int.reduceLE, Nat.reduceSub, Nat.reduceMul, Nat.reduceEqDiff, hB1, tvC_0, hix', hb, hg0, e2, e4, Bool.not_true]
        exact hnext w1 u0 u1 ho0 ho1 hD1 hx1
      · have e4 : decide (((x.1 : Nat) : Int) = ((k : Nat) : Int)) = false := decide_eq_false (by omega)
        rw [hstep, if_neg hk] at hnext
        simp (disch := first | assumption | omega | (simp only [szR, entC_len, entC_all, tvC_len, tvC_all] <;> omega) | rfl | decide) only [gen0, gen1, gen2, rulesM, rulesT, rulesQ, litR, bolR, Nat.reduceAdd, Nat.reduceLeDiff, numR, memR, valR, heapR, updR, intR, decR, extR, slR, segR, thenR, pnR, Int.reduceToNat, Int.reduceAdd, Int.reduceSub, Int.reduceLT, Int.reduceLE, Nat.reduceSub, Nat.reduceMul, Nat.reduceEqDiff, hB1, tvC_0, hix', hb, hg0, e2, e4, Bool.not_false]
        refine joinL.intro fun J5 hJ5 => ?_
        rw [drewK_eq]
        simp (disch := first | assumption | omega | (simp only [szR, entC_len, entC_all, tvC_len, tvC_all] <;> omega) | rfl | decide) only [gen0, gen1, gen2, rulesM, rulesT, rulesQ, litR, bolR, Nat.reduceAdd, Nat.reduceLeDiff, numR, memR, valR, heapR, updR, intR, decR, extR, slR, segR, thenR, pnR, Int.reduceToNat, Int.reduceAdd, Int.reduceSub, Int.reduceLT, Int.reduceLE, Nat.reduceSub, Nat.reduceMul, Nat.reduceEqDiff, hB1, hD1, tvC_0, hix', hb, hg0, and_self]
        have hx2 : Ext [] w1 (w1.drew.alloc (.cells (uC x.1).toArray 23)) := by (repeat first | assumption | exact Ext.refl | apply Ext.alloc | apply Ext.drew | (refine Ext.updN ?_ ?_; (focus first | omega | (simp only [szR] <;> omega))) | (refine Ext.updI ?_ ?_; (focus (simp; done))))
        have hD2 := hx2.at hD1 (by simp)
        have hb2 := hx2.size
        refine appU (rows2 := [uC x.1]) (base := W.heap.size) (ho0.ext hx2 (by simp)) (RowsAt.one (l := uC x.1) (alloc_at rfl) rfl) (by simp [uC]; rfl) (by have := List.length_filter_le (fun p : Nat × EntE => !(p.1 == k)) (R.ps.take i); simp at this ⊢; omega) (Nat.le_trans hs1 hb2) fun v2 w3 ho3 hp3 => ?_
        have hD3 := hp3.step.at hD2 (fun hm => own_ne' (ho0.ext hx2 (by simp)) hD2 (by decide) (by simpa using hm))
        have hX3 : Ext [w.heap.size + 1 + 1] W w3 := hp3.ext W _ (Nat.le_refl _) (hx1.trans hx2 (by simp))
        have ho13 := (ho1.ext hx2 (by simp)).ext hp3.step (fun b hb hm => by
          obtain ⟨l, hl⟩ := own_at' (ho0.ext hx2 (by simp)) (b := b) (by simpa using hm)
          exact own_ne' (ho1.ext hx2 (by simp)) hl (by decide) hb)
        obtain ⟨a5, c5, hv5⟩ := ho3.rows.len
        subst hv5
        have lD3 := lt_of_at hD3
        simp (disch := first | assumption | omega | (simp only [szR, entC_len, entC_all, tvC_len, tvC_all] <;> omega) | rfl | decide) only [gen0, gen1, gen2, rulesM, rulesT, rulesQ, litR, bolR, Nat.reduceAdd, Nat.reduceLeDiff, numR, memR, valR, heapR, updR, intR, decR, extR, slR, segR, thenR, pnR, Int.reduceToNat, Int.reduceAdd, Int.reduceSub, Int.reduceLT, Int.reduceLE, Nat.reduceSub, Nat.reduceMul, Nat.reduceEqDiff, hD3, tv_set0]
        apply hJ5
        intro _
        clear hJ5
        rw [drewK_eq]
        have hD4 := upd_at (l := (tvC (.slice a5 (((R.ps.take i).filter (fun p => !(p.1 == k))).map (fun p => uC p.1) ++ [uC x.1]).length c5) u1 (.slice a2 R.mid.length c2) (.slice a3 R.low.length c3))) hD3
        obtain ⟨w4, hw4⟩ : ∃ w4, w4 = World.upd w3 (w.heap.size + 1 + 1) (tvC (.slice a5 (((R.ps.take i).filter (fun p => !(p.1 == k))).map (fun p => uC p.1) ++ [uC x.1]).length c5) u1 (.slice a2 R.mid.length c2) (.slice a3 R.low.length c3)) := ⟨_, rfl⟩
        rw [← hw4] at hD4 ⊢
        have hxu : Ext [w.heap.size + 1 + 1] w3 w4 := by rw [hw4]; exact Ext.updI (by simp) Ext.refl
        have hX4 := hX3.trans hxu (by simp)
        have ho4 := ho3.ext hxu (fun b hb hm => own_ne' ho3 hD3 (by decide) (by rw [List.mem_singleton.1 hm] at hb; exact hb))
        have ho14 := ho13.ext hxu (fun b hb hm => own_ne' ho13 hD3 (by decide) (by rw [List.mem_singleton.1 hm] at hb; exact hb))
        clear hw4
        have hB4 := hX4.at hB (by simp; omega)
        have hE4 : OwnR w4 0 46 13 (.slice a1 R.ps.length c1) (R.ps.map fun p => entE p.2) := hRW.es.ext hX4 fun b hb hm => own_ne' hRW.es hD (by decide) (by rw [List.mem_singleton.1 hm] at hb; exact hb)
        obtain ⟨b6, o6, L6, E6, ff6, hix6, hb6, hfit6, hlt6, hblk6, hsub6, hget6⟩ := RowsAt.ixR (P := Try.prog) (t := 35) Try.underlying35 Try.sizeOf46 hE4.rows (k := i) (r := entE x.2) (by rw [List.getElem?_map, hxi]; rfl)
        have hs6 := hsub6 o6 rfl
        have hix6' : ∀ w, (Instr.indexAt 35 (.slice a1 R.ps.length c1) (.int .i64 (i : Nat))).run Try.prog w = .ok (.pointer (some ⟨b6, o6, none⟩)) w := fun w => hix6 w .i64 i rfl
        have lB4 := lt_of_at hB4
        have lD4 := lt_of_at hD4
        simp (disch := first | assumption | omega | (simp only [szR, entC_len, entC_all, tvC_len, tvC_all] <;> omega) | rfl | decide) only [gen0, gen1, gen2, rulesM, rulesT, rulesQ, litR, bolR, Nat.reduceAdd, Nat.reduceLeDiff, numR, memR, valR, heapR, updR, intR, decR, extR, slR, segR, thenR, pnR, Int.reduceToNat, Int.reduceAdd, Int.reduceSub, Int.reduceLT, Int.reduceLE, Nat.reduceSub, Nat.reduceMul, Nat.reduceEqDiff, hB4, hD4, tvC_1, hix6', hb6, hs6, entE, and_self]
        have hx5 : Ext [] w4 (w4.drew.alloc (.cells (entC x.2.f x.2.n).toArray 46)) := by (repeat first | assumption | exact Ext.refl | apply Ext.alloc | apply Ext.drew | (refine Ext.updN ?_ ?_; (focus first | omega | (simp only [szR] <;> omega))) | (refine Ext.updI ?_ ?_; (focus (simp; done))))
        have hD5 := hx5.at hD4 (by simp)
        have hb5 := hx5.size
        have hb4 := hX4.size
        refine appE (rows2 := [entE x.2]) (base := W.heap.size) (ho14.ext hx5 (by simp)) (RowsAt.one (l := entE x.2) (alloc_at rfl) (entC_len _ _)) (fun r hr => by rw [List.mem_singleton.1 hr]; exact entC_all _ _) (by have := List.length_filter_le (fun p : Nat × EntE => !(p.1 == k)) (R.ps.take i); simp at this ⊢; omega) (Nat.le_trans hb4 hb5) fun v6 w6 ho6 hp6 => ?_
        have hD6 := hp6.step.at hD5 (fun hm => own_ne' (ho14.ext hx5 (by simp)) hD5 (by decide) (by simpa using hm))
        have hX6 : Ext [w.heap.size + 1 + 1] W w6 := hp6.ext W _ (Nat.le_refl _) (hX4.trans hx5 (by simp))
        have ho46 := (ho4.ext hx5 (by simp)).ext hp6.step (fun b hb hm => by
          obtain ⟨l, hl⟩ := own_at' (ho14.ext hx5 (by simp)) (b := b) (by simpa using hm)
          exact own_ne' (ho4.ext hx5 (by simp)) hl (by decide) hb)
        obtain ⟨a7, c7, hv7⟩ := ho6.rows.len
        subst hv7
        have lD6 := lt_of_at hD6
        simp (disch := first | assumption | omega | (simp only [szR, entC_len, entC_all, tvC_len, tvC_all] <;> omega) | rfl | decide) only [gen0, gen1, gen2, rulesM, rulesT, rulesQ, litR, bolR, Nat.reduceAdd, Nat.reduceLeDiff, numR, memR, valR, heapR, updR, intR, decR, extR, slR, segR, thenR, pnR, Int.reduceToNat, Int.reduceAdd, Int.reduceSub, Int.reduceLT, Int.reduceLE, Nat.reduceSub, Nat.reduceMul, Nat.reduceEqDiff, hD6, tv_set1]
        have hxv : Ext [w.heap.size + 1 + 1] w6 (World.upd w6 (w.heap.size + 1 + 1) (tvC (.slice a5 (((R.ps.take i).filter (fun p => !(p.1 == k))).map (fun p => uC p.1) ++ [uC x.1]).length c5) (.slice a7 (((R.ps.take i).filter (fun p => !(p.1 == k))).map (fun p => entE p.2) ++ [entE x.2]).length c7) (.slice a2 R.mid.length c2) (.slice a3 R.low.length c3))) := Ext.updI (by simp) Ext.refl
        refine hnext _ _ _ ?_ ?_ (upd_at hD6) (hX6.trans hxv (by simp))
        · rw [List.map_append]
          exact ho46.ext hxv (fun b hb hm => own_ne' ho46 hD6 (by decide) (by rw [List.mem_singleton.1 hm] at hb; exact hb))
        · rw [List.map_append]
          exact ho6.ext hxv (fun b hb hm => own_ne' ho6 hD6 (by decide) (by rw [List.mem_singleton.1 hm] at hb; exact hb))
    · have hi2 : i = R.ps.length := by omega
      subst hi2
      rw [List.take_length] at ho0 ho1
      have e3 : decide (((R.ps.length : Nat) : Int) < ((R.ps.length : Nat) : Int)) = false := decide_eq_false (by omega)
      obtain ⟨a5, c5, hv5⟩ := ho0.rows.len
      obtain ⟨a7, c7, hv7⟩ := ho1.rows.len
      subst hv5 hv7
      simp (disch := first | assumption | omega | (simp only [szR, entC_len, entC_all, tvC_len, tvC_all] <;> omega) | rfl | decide) only [gen0, gen1, gen2, rulesM, rulesT, rulesQ, litR, bolR, Nat.reduceAdd, Nat.reduceLeDiff, numR, memR, valR, heapR, updR, intR, decR, extR, slR, segR, thenR, pnR, Int.reduceToNat, Int.reduceAdd, Int.reduceSub, Int.reduceLT, Int.reduceLE, Nat.reduceSub, Nat.reduceMul, Nat.reduceEqDiff, hB1, hC1, hD1, tvC_0, hlen, e3, tvC_sub, tv_drop]
      obtain ⟨w2, hw2⟩ : ∃ w2, w2 = World.upd w1 (w.heap.size + 1) (tvC (.slice a5 ((R.ps.filter (fun p => !(p.1 == k))).map (fun p => uC p.1)).length c5) (.slice a7 ((R.ps.filter (fun p => !(p.1 == k))).map (fun p => entE p.2)).length c7) (.slice a2 R.mid.length c2) (.slice a3 R.low.length c3)) := ⟨_, rfl⟩
      rw [← hw2]
      have hx2 : Ext [w.heap.size + 1] w1 w2 := by rw [hw2]; exact Ext.updI (by simp) Ext.refl
      have hgo : ∀ {b0 n : Nat} {E0 : TypeId} {v : Value} {rows : List (List Value)}, OwnR w1 b0 E0 n v rows → 37 ≠ E0 → OwnR w2 0 E0 n v rows := fun ho hE => (ho.low (Nat.zero_le _)).ext hx2 fun b hb hm => own_ne' ho hC1 hE (by rw [List.mem_singleton.1 hm] at hb; exact hb)
      have hg1 : ∀ {n : Nat} {E0 : TypeId} {v : Value} {rows : List (List Value)}, OwnR W 0 E0 n v rows → 37 ≠ E0 → OwnR w1 0 E0 n v rows := fun ho hE => ho.ext hx1 fun b hb hm => own_ne' ho hD hE (by rw [List.mem_singleton.1 hm] at hb; exact hb)
      exact hK hlt _ _ w2 ⟨hgo ho0 (by decide), hgo ho1 (by decide), hgo (hg1 hRW.mid (by decide)) (by decide), hgo (hg1 hRW.low (by decide)) (by decide)⟩ ((hxW.trans hx1 (fun b hb => .inr (by rw [List.mem_singleton.1 hb]; omega))).trans hx2 (fun b hb => .inr (by rw [List.mem_singleton.1 hb]; omega)))
end Go.Proofs.Ytfpcflmgipklcaa
