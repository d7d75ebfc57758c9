/- What is kept of a page is what was put last of it: the walk; conditions: those of each theorem. -/
import Derived.Test.YtlklhempbpphhaaLast
namespace Go.Proofs.Ytlklhempbpphhaa
open Go.Fx
set_option maxRecDepth 100000
set_option linter.unusedSimpArgs false
set_option linter.unusedVariables false
theorem zero22 (w : World) : (zeroValue 22).run Try.prog w = .ok (.int .u64 0) w := by first | rfl | (simp [zeroValue, typeInfo]; done)
theorem zero4 (w : World) : (zeroValue 4).run Try.prog w = .ok (.bool false) w := by first | rfl | (simp [zeroValue, typeInfo]; done)
theorem evict_mem {S : Nat → List Ln} {place : Int} : ∀ i x, x ∈ evictS S place i → x ∈ S i := by
  intro i x hx
  unfold evictS at hx
  cases hq : (upto S 4)[gone (upto S 4).length place]? with
  | none =>
    rw [hq] at hx
    exact hx
  | some y =>
    rw [hq] at hx
    simp only [put4] at hx
    by_cases h : i = (y.n % 4).toNat
    · rw [if_pos h] at hx
      rw [h]
      exact (List.mem_filter.1 hx).1
    · rw [if_neg h] at hx
      exact hx
set_option maxHeartbeats 4000000 in
theorem last_spec {w : World} {v : Value} {l : List Ac} (hv : RowsAt w v 5 (l.map acC)) (hl : ∀ c ∈ l, c.Ok) {K : Value → World → Prop}
    (hK : ∀ w', Ext [] w w' → K (.bool true) w') : callsK Try.prog 7 #[v] w K := by
  apply F7_ok
  unfold F7
  have hlv := hv.lenR (ty := 3) Try.underlying46
  rw [List.length_map] at hlv
  simp (disch := first | assumption | omega | (simp only [szR] <;> omega) | rfl | decide) only [gen0, gen1, gen2, rulesT, litR, bolR, Nat.reduceAdd, Nat.reduceLeDiff, numR, memR, valR, heapR, updR, intR, decR, extR, slR, segR, thenR, pnR, Int.reduceToNat, Int.reduceAdd, Int.reduceSub, Int.reduceLT, Int.reduceLE, Nat.reduceSub, Nat.reduceMul, Nat.reduceEqDiff, zero58, run_mkM]
  have hmf0 : MapF ((w.alloc (.cells (tlbC fun _ => []).toArray 58)).alloc (.map #[] 0)) (w.heap.size + 1) pgf u64f (fun _ => none) := by
    have := MapF.make (w := w.alloc (.cells (tlbC fun _ => []).toArray 58)) (kf := pgf) (vf := u64f)
    simp only [szR] at this
    exact this
  have ht0 : Told (fun _ => []) (fun _ => none) := by
    intro x hx
    rw [clear_law] at hx
    cases hx
  refine loopT.intro (fun st w' => ∃ (k : Nat) (z : Int) (S : Nat → List Ln) (f : Int × Int → Option Int), k ≤ l.length ∧ st = [.int .i64 z] ∧ z = k ∧ At w' w.heap.size S ∧ Good S ∧ MapF w' (w.heap.size + 1) pgf u64f f ∧ Told S f ∧ Ext [] w w')
    (fun st _ => match st with
      | [.int _ z] => l.length - z.toNat
      | _ => 0) ⟨0, 0, fun _ => [], _, Nat.zero_le _, rfl, rfl, ⟨58, by simp (disch := first | assumption | omega | (simp only [szR] <;> omega) | rfl | decide) only [gen0, gen1, gen2, rulesT, litR, bolR, Nat.reduceAdd, Nat.reduceLeDiff, numR, memR, valR, heapR, updR, intR, decR, extR, slR, segR, thenR, pnR, Int.reduceToNat, Int.reduceAdd, Int.reduceSub, Int.reduceLT, Int.reduceLE, Nat.reduceSub, Nat.reduceMul, Nat.reduceEqDiff]⟩, Good.none, hmf0, ht0, (Ext.refl.alloc _ _).allocM⟩ ?_
  rintro st w' ⟨k, z, S, f, hk, rfl, rfl, hS, hg, hmf, htold, hx'⟩ _
  have hv' := hv.ext hx' (by simp)
  have hbt := lt_of_at hS.choose_spec
  have hmlt := hmf.lt
  have hlen : (l.map acC).length = l.length := List.length_map ..
  have hfin : ∀ w2, Ext [] w w2 → True := fun _ _ => trivial
  by_cases hlt : k < l.length
  · by_cases h60 : k < 100
    · obtain ⟨b, o, L, E, f0, hix, hb, hfit, hbl, -, hsub, hget⟩ := hv'.ixR Try.underlying46 Try.sizeOf61 (k := k) (r := acC l[k]) (by simp [hlt])
      have hok := hl l[k] (List.getElem_mem hlt)
      generalize l[k] = c at hsub hok hget
      have hle := upto_le hg.two 4
      have hc := hok.n
      simp only [acC] at hsub
      simp (disch := first | assumption | omega | (simp only [szR] <;> omega) | rfl | decide) only [gen0, gen1, gen2, rulesT, litR, bolR, Nat.reduceAdd, Nat.reduceLeDiff, numR, memR, valR, heapR, updR, intR, decR, extR, slR, segR, thenR, pnR, Int.reduceToNat, Int.reduceAdd, Int.reduceSub, Int.reduceLT, Int.reduceLE, Nat.reduceSub, Nat.reduceMul, Nat.reduceEqDiff, joinBR, hlv, hix, hb, hsub]
      refine joinL.intro fun J3 hJ3 => ?_
      have hrest : ∀ S2 f2 w2, At w2 w.heap.size S2 → Good S2 → MapF w2 (w.heap.size + 1) pgf u64f f2 → Told S2 f2 → Ext [] w w2 → J3 [] w2 := by
        intro S2 f2 w2 h1 h2 h3 h4 h5
        have hle2 := upto_le h2.two 4
        have hnod := upto_nod h2 4
        apply hJ3
        intro _
        simp (disch := first | assumption | omega | (simp only [szR] <;> omega) | rfl | decide) only [gen0, gen1, gen2, rulesT, litR, bolR, Nat.reduceAdd, Nat.reduceLeDiff, numR, memR, valR, heapR, updR, intR, decR, extR, slR, segR, thenR, pnR, Int.reduceToNat, Int.reduceAdd, Int.reduceSub, Int.reduceLT, Int.reduceLE, Nat.reduceSub, Nat.reduceMul, Nat.reduceEqDiff]
        refine Lines_spec h1 h2.two fun v104 w3 hown hx3 => ?_
        have hrows : RowsAt w3 v104 16 ((upto S2 4).map lnC) := Own.rows (by rw [List.length_map]; exact hown) rfl (by simp [lnC_len])
        have hl104 := hrows.lenR (ty := 3) Try.underlying64
        rw [List.length_map] at hl104
        have hS3 := h1.ext hx3 (by simp)
        have hm3 := h3.ext hx3 (by simp)
        have hm3lt := hm3.lt
        have hx35 := h5.trans hx3 (by simp)
        unfold Told at h4
        generalize hM : upto S2 4 = M at hle2 hnod hrows hl104 h4
        simp (disch := first | assumption | omega | (simp only [szR] <;> omega) | rfl | decide) only [gen0, gen1, gen2, rulesT, litR, bolR, Nat.reduceAdd, Nat.reduceLeDiff, numR, memR, valR, heapR, updR, intR, decR, extR, slR, segR, thenR, pnR, Int.reduceToNat, Int.reduceAdd, Int.reduceSub, Int.reduceLT, Int.reduceLE, Nat.reduceSub, Nat.reduceMul, Nat.reduceEqDiff, hl104, run_mkM]
        refine loopT.intro (fun st w4 => ∃ (j : Nat) (z : Int) (g : Int × Int → Option Bool), j ≤ M.length ∧ st = [.int .i64 z] ∧ z = j ∧ MapF w4 w3.heap.size pgf boolf g ∧ (∀ x ∈ M.drop j, g (x.a, x.n) = none) ∧ Ext [] w3 w4)
          (fun st _ => match st with
            | [.int _ z] => M.length - z.toNat
            | _ => 0) ⟨0, 0, fun _ => none, Nat.zero_le _, rfl, rfl, MapF.make, by simp, Ext.refl.allocM⟩ ?_
        rintro st w4 ⟨j, z, g, hj, rfl, rfl, hmet, hgn, hx4⟩ _
        have hmetlt := hmet.lt
        by_cases hjl : j < M.length
        · obtain ⟨b4, o4, L4, E4, f4, hix4, hb4, hfit4, hbl4, -, -, hget4⟩ := (hrows.ext hx4 (by simp)).ixR Try.underlying64 Try.sizeOf52 (k := j) (r := lnC M[j]) (by simp [hjl])
          have hmem : M[j] ∈ M := List.getElem_mem hjl
          have hdrop : M.drop j = M[j] :: M.drop (j + 1) := List.drop_eq_getElem_cons hjl
          have htx := h4 _ hmem
          have hgx := hgn M[j] (by rw [hdrop]; exact List.mem_cons_self ..)
          have hrestn : ∀ y ∈ M.drop (j + 1), ¬ (y.a, y.n) = (M[j].a, M[j].n) := by
            intro y hy
            have hp : (M.drop j).Pairwise fun x y => ¬ (x.a = y.a ∧ x.n = y.n) := hnod.sublist (List.drop_sublist _ _)
            rw [hdrop] at hp
            have := (List.pairwise_cons.1 hp).1 y hy
            simp only [Prod.mk.injEq]
            rintro ⟨e1, e2⟩
            exact this ⟨e1.symm, e2.symm⟩
          have hgn' : ∀ y ∈ M.drop (j + 1), g (y.a, y.n) = none := fun y hy => hgn y (by rw [hdrop]; exact List.mem_cons_of_mem _ hy)
          generalize M[j] = x at hget4 htx hgx hrestn
          have e0 : L4[o4]? = some (.int .u64 x.a) := hget4 _ 0 rfl (by omega)
          have e1 : L4[o4 + 1]? = some (.int .u64 x.n) := hget4 _ 1 rfl (by omega)
          have e15 : L4[o4 + 2 + 13]? = some (.int .u64 x.x) := hget4 _ 15 rfl (by omega)
          have e15' : L4[o4 + 15]? = some (.int .u64 x.x) := hget4 _ 15 rfl (by omega)
          simp (disch := first | assumption | omega | (simp only [szR] <;> omega) | rfl | decide) only [gen0, gen1, gen2, rulesT, litR, bolR, Nat.reduceAdd, Nat.reduceLeDiff, numR, memR, valR, heapR, updR, intR, decR, extR, slR, segR, thenR, pnR, Int.reduceToNat, Int.reduceAdd, Int.reduceSub, Int.reduceLT, Int.reduceLE, Nat.reduceSub, Nat.reduceMul, Nat.reduceEqDiff, hl104]
          refine joinL.intro fun J7 hJ7 => ?_
          simp (disch := first | assumption | omega | (simp only [szR] <;> omega) | rfl | decide) only [gen0, gen1, gen2, rulesT, litR, bolR, Nat.reduceAdd, Nat.reduceLeDiff, numR, memR, valR, heapR, updR, intR, decR, extR, slR, segR, thenR, pnR, Int.reduceToNat, Int.reduceAdd, Int.reduceSub, Int.reduceLT, Int.reduceLE, Nat.reduceSub, Nat.reduceMul, Nat.reduceEqDiff, hix4, hb4, e0, e1, and_self]
          apply hJ7
          intro _
          have hx5 : Ext [] w4 (w4.drew.alloc (.cells [.int .u64 x.a, .int .u64 x.n].toArray 86)) := by (repeat first | assumption | exact Ext.refl | apply Ext.alloc | apply Ext.drew | (refine Ext.updN ?_ ?_; (focus first | omega | (simp only [szR] <;> omega))) | (refine Ext.updI ?_ ?_; (focus (simp; done))))
          have hb5 : (w4.drew.alloc (.cells [.int .u64 x.a, .int .u64 x.n].toArray 86)).heap[w4.heap.size]? = some (.cells [.int .u64 x.a, .int .u64 x.n].toArray 86 (0, 0)) := by simp (disch := first | assumption | omega | (simp only [szR] <;> omega) | rfl | decide) only [gen0, gen1, gen2, rulesT, litR, bolR, Nat.reduceAdd, Nat.reduceLeDiff, numR, memR, valR, heapR, updR, intR, decR, extR, slR, segR, thenR, pnR, Int.reduceToNat, Int.reduceAdd, Int.reduceSub, Int.reduceLT, Int.reduceLE, Nat.reduceSub, Nat.reduceMul, Nat.reduceEqDiff]
          have hb45 := hx5.at hb4 (by simp)
          generalize w4.drew.alloc (.cells [.int .u64 x.a, .int .u64 x.n].toArray 86) = w5 at hx5 hb5 hb45
          have hlt5 := lt_of_at hb5
          have hmet5 := hmet.ext hx5 (by simp)
          have hm5 := (hm3.ext hx4 (by simp)).ext hx5 (by simp)
          have hk1 := run_lookM Try.underlying84 pageKey zero22 hm5 (x.a, x.n) true
          have hk2 := run_lookM Try.underlying87 pageKey zero4 hmet5 (x.a, x.n) false
          rw [htx] at hk1
          rw [hgx] at hk2
          simp only [pgf, u64f, boolf, if_true, Option.map_some, Option.map_none, Option.getD_some, Option.getD_none, Option.isSome_some, Bool.false_eq_true, if_false] at hk1 hk2
          simp (disch := first | assumption | omega | (simp only [szR] <;> omega) | rfl | decide) only [gen0, gen1, gen2, rulesT, litR, bolR, Nat.reduceAdd, Nat.reduceLeDiff, numR, memR, valR, heapR, updR, intR, decR, extR, slR, segR, thenR, pnR, Int.reduceToNat, Int.reduceAdd, Int.reduceSub, Int.reduceLT, Int.reduceLE, Nat.reduceSub, Nat.reduceMul, Nat.reduceEqDiff, joinBR, hb5, hk1, hk2, hix4, hb45, e15, e15']
          refine run_updM (vf := boolf) Try.underlying87 pageKey hmet5 (x.a, x.n) true fun w6 hmet6 hx6 => ?_
          simp (disch := first | assumption | omega | (simp only [szR] <;> omega) | rfl | decide) only [gen0, gen1, gen2, rulesT, litR, bolR, Nat.reduceAdd, Nat.reduceLeDiff, numR, memR, valR, heapR, updR, intR, decR, extR, slR, segR, thenR, pnR, Int.reduceToNat, Int.reduceAdd, Int.reduceSub, Int.reduceLT, Int.reduceLE, Nat.reduceSub, Nat.reduceMul, Nat.reduceEqDiff]
          refine ⟨⟨j + 1, (j : Int) + 1, _, by omega, rfl, by omega, hmet6, fun y hy => ?_, ?_⟩, by first | omega | (simp <;> omega)⟩
          · show (if (y.a, y.n) = (x.a, x.n) then some true else g (y.a, y.n)) = none
            rw [if_neg (hrestn y hy)]
            exact hgn' y hy
          · exact (hx4.trans hx5 (by simp)).trans hx6 (by simp)
        · simp (disch := first | assumption | omega | (simp only [szR] <;> omega) | rfl | decide) only [gen0, gen1, gen2, rulesT, litR, bolR, Nat.reduceAdd, Nat.reduceLeDiff, numR, memR, valR, heapR, updR, intR, decR, extR, slR, segR, thenR, pnR, Int.reduceToNat, Int.reduceAdd, Int.reduceSub, Int.reduceLT, Int.reduceLE, Nat.reduceSub, Nat.reduceMul, Nat.reduceEqDiff, hl104]
          refine ⟨⟨k + 1, (k : Int) + 1, S2, f2, by omega, rfl, by omega, hS3.ext hx4 (by simp), h2, hm3.ext hx4 (by simp), by unfold Told; rw [hM]; exact h4, hx35.trans hx4 (by simp)⟩, by first | omega | (simp <;> omega)⟩
      have hx1 : Ext [] w' (w'.alloc (.cells [.int .i64 c.kind, .int .i64 c.place, .int .u64 c.a, .int .u64 c.n, .int .u64 c.x].toArray 61)) := by (repeat first | assumption | exact Ext.refl | apply Ext.alloc | apply Ext.drew | (refine Ext.updN ?_ ?_; (focus first | omega | (simp only [szR] <;> omega))) | (refine Ext.updI ?_ ?_; (focus (simp; done))))
      have hc1 : (w'.alloc (.cells [.int .i64 c.kind, .int .i64 c.place, .int .u64 c.a, .int .u64 c.n, .int .u64 c.x].toArray 61)).heap[w'.heap.size]? = some (.cells [.int .i64 c.kind, .int .i64 c.place, .int .u64 c.a, .int .u64 c.n, .int .u64 c.x].toArray 61 (0, 0)) := by simp (disch := first | assumption | omega | (simp only [szR] <;> omega) | rfl | decide) only [gen0, gen1, gen2, rulesT, litR, bolR, Nat.reduceAdd, Nat.reduceLeDiff, numR, memR, valR, heapR, updR, intR, decR, extR, slR, segR, thenR, pnR, Int.reduceToNat, Int.reduceAdd, Int.reduceSub, Int.reduceLT, Int.reduceLE, Nat.reduceSub, Nat.reduceMul, Nat.reduceEqDiff]
      have hS1 := hS.ext hx1 (by simp)
      have hm1 := hmf.ext hx1 (by simp)
      have hxw := hx'.trans hx1 (by simp)
      have hsz := hx1.size
      have hcell : ∀ w2 T, Ext T (w'.alloc (.cells [.int .i64 c.kind, .int .i64 c.place, .int .u64 c.a, .int .u64 c.n, .int .u64 c.x].toArray 61)) w2 → w'.heap.size ∉ T → w2.heap[w'.heap.size]? = some (.cells [.int .i64 c.kind, .int .i64 c.place, .int .u64 c.a, .int .u64 c.n, .int .u64 c.x].toArray 61 (0, 0)) := fun w2 T h1 h2 => h1.at hc1 h2
      have hv1 := hv'.ext hx1 (by simp)
      generalize w'.alloc (.cells [.int .i64 c.kind, .int .i64 c.place, .int .u64 c.a, .int .u64 c.n, .int .u64 c.x].toArray 61) = wc at hx1 hc1 hS1 hm1 hxw hcell hsz hv1
      have hbs : w'.heap.size ∉ [w.heap.size] := by simp; omega
      have hbm : w'.heap.size ∉ [w.heap.size + 1] := by simp; omega
      have hmb : w.heap.size + 1 ∉ [w.heap.size] := by simp
      have hbm2 : w.heap.size ∉ [w.heap.size + 1] := by simp
      by_cases h0 : c.kind = 0
      · simp (disch := first | assumption | omega | (simp only [szR] <;> omega) | rfl | decide) only [gen0, gen1, gen2, rulesT, litR, bolR, Nat.reduceAdd, Nat.reduceLeDiff, numR, memR, valR, heapR, updR, intR, decR, extR, slR, segR, thenR, pnR, Int.reduceToNat, Int.reduceAdd, Int.reduceSub, Int.reduceLT, Int.reduceLE, Nat.reduceSub, Nat.reduceMul, Nat.reduceEqDiff, hc1]
        refine line_spec (c := c) fun w3 hx3 => ?_
        refine Put_spec (l := ⟨c.a, c.n, c.x⟩) (hS1.ext hx3 (by simp)) hg.two hc fun w4 hS4 hx4 => ?_
        have hx5 : Ext [w.heap.size] wc w4 := (hx3.mono (by simp)).trans hx4 (by simp)
        have hc4 := hcell w4 _ hx5 hbs
        have hm4 := hm1.ext hx5 hmb
        simp (disch := first | assumption | omega | (simp only [szR] <;> omega) | rfl | decide) only [gen0, gen1, gen2, rulesT, litR, bolR, Nat.reduceAdd, Nat.reduceLeDiff, numR, memR, valR, heapR, updR, intR, decR, extR, slR, segR, thenR, pnR, Int.reduceToNat, Int.reduceAdd, Int.reduceSub, Int.reduceLT, Int.reduceLE, Nat.reduceSub, Nat.reduceMul, Nat.reduceEqDiff, hc4]
        refine run_updM Try.underlying84 pageKey hm4 (c.a, c.n) c.x fun w5 hm5 hx6 => ?_
        have hc5 := hx6.at hc4 hbm
        have hS5 := hS4.ext hx6 hbm2
        have hg5 := hg.putS (l := ⟨c.a, c.n, c.x⟩) hc
        have ht5 := told_put htold hg (l := ⟨c.a, c.n, c.x⟩) hc.1
        have hlk := look_put hg (l := ⟨c.a, c.n, c.x⟩) hc.1
        simp (disch := first | assumption | omega | (simp only [szR] <;> omega) | rfl | decide) only [gen0, gen1, gen2, rulesT, litR, bolR, Nat.reduceAdd, Nat.reduceLeDiff, numR, memR, valR, heapR, updR, intR, decR, extR, slR, segR, thenR, pnR, Int.reduceToNat, Int.reduceAdd, Int.reduceSub, Int.reduceLT, Int.reduceLE, Nat.reduceSub, Nat.reduceMul, Nat.reduceEqDiff, hc5]
        refine Look_spec hS5 hg5.two hc fun w6 hx7 => ?_
        generalize look (putS S ⟨c.a, c.n, c.x⟩) c.a c.n = q at hlk
        have hx8 : Ext [] w6 (w6.alloc (.cells (lnC q.1).toArray 52)) := by (repeat first | assumption | exact Ext.refl | apply Ext.alloc | apply Ext.drew | (refine Ext.updN ?_ ?_; (focus first | omega | (simp only [szR] <;> omega))) | (refine Ext.updI ?_ ?_; (focus (simp; done))))
        simp only [lnC] at hx8
        simp only [lnC]
        simp (disch := first | assumption | omega | (simp only [szR] <;> omega) | rfl | decide) only [gen0, gen1, gen2, rulesT, litR, bolR, Nat.reduceAdd, Nat.reduceLeDiff, numR, memR, valR, heapR, updR, intR, decR, extR, slR, segR, thenR, pnR, Int.reduceToNat, Int.reduceAdd, Int.reduceSub, Int.reduceLT, Int.reduceLE, Nat.reduceSub, Nat.reduceMul, Nat.reduceEqDiff, hlk]
        exact hrest _ _ _ ((hS5.ext hx7 (by simp)).ext hx8 (by simp)) hg5 ((hm5.ext hx7 (by simp)).ext hx8 (by simp)) ht5 ((((hxw.trans hx5 (by simp)).trans hx6 (by simp)).trans hx7 (by simp)).trans hx8 (by simp))
      by_cases h2 : c.kind = 2
      · simp (disch := first | assumption | omega | (simp only [szR] <;> omega) | rfl | decide) only [gen0, gen1, gen2, rulesT, litR, bolR, Nat.reduceAdd, Nat.reduceLeDiff, numR, memR, valR, heapR, updR, intR, decR, extR, slR, segR, thenR, pnR, Int.reduceToNat, Int.reduceAdd, Int.reduceSub, Int.reduceLT, Int.reduceLE, Nat.reduceSub, Nat.reduceMul, Nat.reduceEqDiff, hc1]
        refine Drop_spec hS1 hg.two hc fun w4 hS4 hx4 => ?_
        have hc4 := hcell w4 _ hx4 hbs
        have hm4 := hm1.ext hx4 hmb
        simp (disch := first | assumption | omega | (simp only [szR] <;> omega) | rfl | decide) only [gen0, gen1, gen2, rulesT, litR, bolR, Nat.reduceAdd, Nat.reduceLeDiff, numR, memR, valR, heapR, updR, intR, decR, extR, slR, segR, thenR, pnR, Int.reduceToNat, Int.reduceAdd, Int.reduceSub, Int.reduceLT, Int.reduceLE, Nat.reduceSub, Nat.reduceMul, Nat.reduceEqDiff, hc4]
        refine run_delM Try.underlying84 pageKey hm4 (c.a, c.n) fun w5 hm5 hx6 => ?_
        refine hrest _ _ _ (hS4.ext hx6 hbm2) (hg.drop _ _) hm5 (told_del htold fun x hx => ?_) ((hxw.trans hx4 (by simp)).trans hx6 (by simp))
        rw [drop_law hg hc.1] at hx
        obtain ⟨h1, h2⟩ := List.mem_filter.1 hx
        refine ⟨h1, ?_⟩
        rintro ⟨e1, e2⟩
        simp [e1, e2] at h2
      by_cases h3 : c.kind = 3
      · simp (disch := first | assumption | omega | (simp only [szR] <;> omega) | rfl | decide) only [gen0, gen1, gen2, rulesT, litR, bolR, Nat.reduceAdd, Nat.reduceLeDiff, numR, memR, valR, heapR, updR, intR, decR, extR, slR, segR, thenR, pnR, Int.reduceToNat, Int.reduceAdd, Int.reduceSub, Int.reduceLT, Int.reduceLE, Nat.reduceSub, Nat.reduceMul, Nat.reduceEqDiff, hc1]
        refine Flush_spec hS1 hg.two fun w4 hS4 hx4 => ?_
        have hc4 := hcell w4 _ hx4 hbs
        have hm4 := hm1.ext hx4 hmb
        have ht4 : Told (fun j => (S j).filter (fun l => !(l.a == c.a))) f := told_sub htold fun i x hx => (List.mem_filter.1 hx).1
        have hne : ∀ x ∈ upto (fun j => (S j).filter (fun l => !(l.a == c.a))) 4, x.a ≠ c.a := by
          intro x hx
          obtain ⟨i, -, h⟩ := mem_upto.1 hx
          have := (List.mem_filter.1 h).2
          simpa using this
        have hg4 := hg.filter (fun l => !(l.a == c.a))
        have hlcs := lt_of_at hc4
        refine loopT.intro (fun st w5 => ∃ (j : Nat) (z : Int) (f2 : Int × Int → Option Int), j ≤ k + 1 ∧ st = [.int .i64 z] ∧ z = j ∧ MapF w5 (w.heap.size + 1) pgf u64f f2 ∧ Told (fun j => (S j).filter (fun l => !(l.a == c.a))) f2 ∧ Ext [w.heap.size + 1] w4 w5)
          (fun st _ => match st with
            | [.int _ z] => k + 1 - z.toNat
            | _ => 0) ⟨0, 0, f, Nat.zero_le _, rfl, rfl, hm4, ht4, Ext.refl⟩ ?_
        rintro st w5 ⟨j, z, f2, hj, rfl, rfl, hm5, ht5, hx5⟩ _
        have hc5 := hx5.at hc4 hbm
        have hxa : Ext [] w w5 := (hxw.trans hx4 (by simp)).trans hx5 (by simp)
        by_cases hjk : j ≤ k
        · obtain ⟨b2, o2, L2, E2, f3, hix2, hb2, hfit2, hbl2, -, -, hget2⟩ := (hv.ext hxa (by simp)).ixR Try.underlying46 Try.sizeOf61 (k := j) (r := acC l[j]) (by simp [show j < l.length by omega])
          generalize l[j] = d at hget2
          have e2 : L2[o2 + 2]? = some (.int .u64 d.a) := hget2 _ 2 rfl (by omega)
          have e3 : L2[o2 + 3]? = some (.int .u64 d.n) := hget2 _ 3 rfl (by omega)
          simp (disch := first | assumption | omega | (simp only [szR] <;> omega) | rfl | decide) only [gen0, gen1, gen2, rulesT, litR, bolR, Nat.reduceAdd, Nat.reduceLeDiff, numR, memR, valR, heapR, updR, intR, decR, extR, slR, segR, thenR, pnR, Int.reduceToNat, Int.reduceAdd, Int.reduceSub, Int.reduceLT, Int.reduceLE, Nat.reduceSub, Nat.reduceMul, Nat.reduceEqDiff]
          refine joinL.intro fun J13 hJ13 => ?_
          have hgo : ∀ w6 f6, MapF w6 (w.heap.size + 1) pgf u64f f6 → Told (fun j => (S j).filter (fun l => !(l.a == c.a))) f6 → Ext [w.heap.size + 1] w4 w6 → J13 [] w6 := by
            intro w6 f6 q1 q2 q3
            apply hJ13
            intro _
            simp (disch := first | assumption | omega | (simp only [szR] <;> omega) | rfl | decide) only [gen0, gen1, gen2, rulesT, litR, bolR, Nat.reduceAdd, Nat.reduceLeDiff, numR, memR, valR, heapR, updR, intR, decR, extR, slR, segR, thenR, pnR, Int.reduceToNat, Int.reduceAdd, Int.reduceSub, Int.reduceLT, Int.reduceLE, Nat.reduceSub, Nat.reduceMul, Nat.reduceEqDiff]
            exact ⟨⟨j + 1, (j : Int) + 1, f6, by omega, rfl, by omega, q1, q2, q3⟩, by first | omega | (simp <;> omega)⟩
          by_cases hda : d.a = c.a
          · simp (disch := first | assumption | omega | (simp only [szR] <;> omega) | rfl | decide) only [gen0, gen1, gen2, rulesT, litR, bolR, Nat.reduceAdd, Nat.reduceLeDiff, numR, memR, valR, heapR, updR, intR, decR, extR, slR, segR, thenR, pnR, Int.reduceToNat, Int.reduceAdd, Int.reduceSub, Int.reduceLT, Int.reduceLE, Nat.reduceSub, Nat.reduceMul, Nat.reduceEqDiff, hix2, hb2, e2, e3, hc5]
            refine run_delM Try.underlying84 pageKey (hm5.ext (S := []) (by (repeat first | assumption | exact Ext.refl | apply Ext.alloc | apply Ext.drew | (refine Ext.updN ?_ ?_; (focus first | omega | (simp only [szR] <;> omega))) | (refine Ext.updI ?_ ?_; (focus (simp; done))))) (by simp)) (c.a, d.n) fun w6 hm6 hx6 => ?_
            refine hgo _ _ hm6 (told_del ht5 fun x hx => ⟨hx, fun e => hne x hx e.1⟩) ?_
            have : Ext [w.heap.size + 1] w4 w5.drew.drew := hx5.drew.drew
            exact this.trans hx6 (fun k hk => .inl hk)
          · simp (disch := first | assumption | omega | (simp only [szR] <;> omega) | rfl | decide) only [gen0, gen1, gen2, rulesT, litR, bolR, Nat.reduceAdd, Nat.reduceLeDiff, numR, memR, valR, heapR, updR, intR, decR, extR, slR, segR, thenR, pnR, Int.reduceToNat, Int.reduceAdd, Int.reduceSub, Int.reduceLT, Int.reduceLE, Nat.reduceSub, Nat.reduceMul, Nat.reduceEqDiff, hix2, hb2, e2, e3, hc5]
            exact hgo _ _ (hm5.ext (S := []) (by (repeat first | assumption | exact Ext.refl | apply Ext.alloc | apply Ext.drew | (refine Ext.updN ?_ ?_; (focus first | omega | (simp only [szR] <;> omega))) | (refine Ext.updI ?_ ?_; (focus (simp; done))))) (by simp)) ht5 hx5.drew
        · obtain rfl : j = k + 1 := by omega
          simp (disch := first | assumption | omega | (simp only [szR] <;> omega) | rfl | decide) only [gen0, gen1, gen2, rulesT, litR, bolR, Nat.reduceAdd, Nat.reduceLeDiff, numR, memR, valR, heapR, updR, intR, decR, extR, slR, segR, thenR, pnR, Int.reduceToNat, Int.reduceAdd, Int.reduceSub, Int.reduceLT, Int.reduceLE, Nat.reduceSub, Nat.reduceMul, Nat.reduceEqDiff]
          exact hrest _ _ _ (hS4.ext hx5 hbm2) hg4 hm5 ht5 hxa
      by_cases h5 : c.kind = 5
      · simp (disch := first | assumption | omega | (simp only [szR] <;> omega) | rfl | decide) only [gen0, gen1, gen2, rulesT, litR, bolR, Nat.reduceAdd, Nat.reduceLeDiff, numR, memR, valR, heapR, updR, intR, decR, extR, slR, segR, thenR, pnR, Int.reduceToNat, Int.reduceAdd, Int.reduceSub, Int.reduceLT, Int.reduceLE, Nat.reduceSub, Nat.reduceMul, Nat.reduceEqDiff, hc1]
        refine Evict_spec hS1 hg fun w4 hS4 hx4 => ?_
        exact hrest _ _ _ hS4 (hg.evict _) (hm1.ext hx4 hmb) (told_sub htold evict_mem) (hxw.trans hx4 (by simp))
      simp (disch := first | assumption | omega | (simp only [szR] <;> omega) | rfl | decide) only [gen0, gen1, gen2, rulesT, litR, bolR, Nat.reduceAdd, Nat.reduceLeDiff, numR, memR, valR, heapR, updR, intR, decR, extR, slR, segR, thenR, pnR, Int.reduceToNat, Int.reduceAdd, Int.reduceSub, Int.reduceLT, Int.reduceLE, Nat.reduceSub, Nat.reduceMul, Nat.reduceEqDiff, hc1]
      exact hrest S f wc hS1 hg hm1 htold hxw
    · simp (disch := first | assumption | omega | (simp only [szR] <;> omega) | rfl | decide) only [gen0, gen1, gen2, rulesT, litR, bolR, Nat.reduceAdd, Nat.reduceLeDiff, numR, memR, valR, heapR, updR, intR, decR, extR, slR, segR, thenR, pnR, Int.reduceToNat, Int.reduceAdd, Int.reduceSub, Int.reduceLT, Int.reduceLE, Nat.reduceSub, Nat.reduceMul, Nat.reduceEqDiff, joinBR, hlv]
      refine nilPut_spec (l := Ln.zero) fun y1 z1 => ?_
      simp (disch := first | assumption | omega | (simp only [szR] <;> omega) | rfl | decide) only [gen0, gen1, gen2, rulesT, litR, bolR, Nat.reduceAdd, Nat.reduceLeDiff, numR, memR, valR, heapR, updR, intR, decR, extR, slR, segR, thenR, pnR, Int.reduceToNat, Int.reduceAdd, Int.reduceSub, Int.reduceLT, Int.reduceLE, Nat.reduceSub, Nat.reduceMul, Nat.reduceEqDiff]
      refine nilClear_spec fun y2 z2 => ?_
      simp (disch := first | assumption | omega | (simp only [szR] <;> omega) | rfl | decide) only [gen0, gen1, gen2, rulesT, litR, bolR, Nat.reduceAdd, Nat.reduceLeDiff, numR, memR, valR, heapR, updR, intR, decR, extR, slR, segR, thenR, pnR, Int.reduceToNat, Int.reduceAdd, Int.reduceSub, Int.reduceLT, Int.reduceLE, Nat.reduceSub, Nat.reduceMul, Nat.reduceEqDiff]
      refine nilLook_spec fun y3 z3 => ?_
      simp only [lnC, Ln.zero]
      simp (disch := first | assumption | omega | (simp only [szR] <;> omega) | rfl | decide) only [gen0, gen1, gen2, rulesT, litR, bolR, Nat.reduceAdd, Nat.reduceLeDiff, numR, memR, valR, heapR, updR, intR, decR, extR, slR, segR, thenR, pnR, Int.reduceToNat, Int.reduceAdd, Int.reduceSub, Int.reduceLT, Int.reduceLE, Nat.reduceSub, Nat.reduceMul, Nat.reduceEqDiff]
      refine one_spec fun y4 z4 => ?_
      simp (disch := first | assumption | omega | (simp only [szR] <;> omega) | rfl | decide) only [gen0, gen1, gen2, rulesT, litR, bolR, Nat.reduceAdd, Nat.reduceLeDiff, numR, memR, valR, heapR, updR, intR, decR, extR, slR, segR, thenR, pnR, Int.reduceToNat, Int.reduceAdd, Int.reduceSub, Int.reduceLT, Int.reduceLE, Nat.reduceSub, Nat.reduceMul, Nat.reduceEqDiff, joinBR]
      refine nilLines_spec fun y5 z5 => ?_
      simp (disch := first | assumption | omega | (simp only [szR] <;> omega) | rfl | decide) only [gen0, gen1, gen2, rulesT, litR, bolR, Nat.reduceAdd, Nat.reduceLeDiff, numR, memR, valR, heapR, updR, intR, decR, extR, slR, segR, thenR, pnR, Int.reduceToNat, Int.reduceAdd, Int.reduceSub, Int.reduceLT, Int.reduceLE, Nat.reduceSub, Nat.reduceMul, Nat.reduceEqDiff, joinBR]
      exact hK _ ((((((hx'.trans z1 (by simp)).trans z2 (by simp)).trans z3 (by simp)).alloc _ _).trans z4 (by simp)).trans z5 (by simp))
  · simp (disch := first | assumption | omega | (simp only [szR] <;> omega) | rfl | decide) only [gen0, gen1, gen2, rulesT, litR, bolR, Nat.reduceAdd, Nat.reduceLeDiff, numR, memR, valR, heapR, updR, intR, decR, extR, slR, segR, thenR, pnR, Int.reduceToNat, Int.reduceAdd, Int.reduceSub, Int.reduceLT, Int.reduceLE, Nat.reduceSub, Nat.reduceMul, Nat.reduceEqDiff, joinBR, hlv]
    refine nilPut_spec (l := Ln.zero) fun y1 z1 => ?_
    simp (disch := first | assumption | omega | (simp only [szR] <;> omega) | rfl | decide) only [gen0, gen1, gen2, rulesT, litR, bolR, Nat.reduceAdd, Nat.reduceLeDiff, numR, memR, valR, heapR, updR, intR, decR, extR, slR, segR, thenR, pnR, Int.reduceToNat, Int.reduceAdd, Int.reduceSub, Int.reduceLT, Int.reduceLE, Nat.reduceSub, Nat.reduceMul, Nat.reduceEqDiff]
    refine nilClear_spec fun y2 z2 => ?_
    simp (disch := first | assumption | omega | (simp only [szR] <;> omega) | rfl | decide) only [gen0, gen1, gen2, rulesT, litR, bolR, Nat.reduceAdd, Nat.reduceLeDiff, numR, memR, valR, heapR, updR, intR, decR, extR, slR, segR, thenR, pnR, Int.reduceToNat, Int.reduceAdd, Int.reduceSub, Int.reduceLT, Int.reduceLE, Nat.reduceSub, Nat.reduceMul, Nat.reduceEqDiff]
    refine nilLook_spec fun y3 z3 => ?_
    simp only [lnC, Ln.zero]
    simp (disch := first | assumption | omega | (simp only [szR] <;> omega) | rfl | decide) only [gen0, gen1, gen2, rulesT, litR, bolR, Nat.reduceAdd, Nat.reduceLeDiff, numR, memR, valR, heapR, updR, intR, decR, extR, slR, segR, thenR, pnR, Int.reduceToNat, Int.reduceAdd, Int.reduceSub, Int.reduceLT, Int.reduceLE, Nat.reduceSub, Nat.reduceMul, Nat.reduceEqDiff]
    refine one_spec fun y4 z4 => ?_
    simp (disch := first | assumption | omega | (simp only [szR] <;> omega) | rfl | decide) only [gen0, gen1, gen2, rulesT, litR, bolR, Nat.reduceAdd, Nat.reduceLeDiff, numR, memR, valR, heapR, updR, intR, decR, extR, slR, segR, thenR, pnR, Int.reduceToNat, Int.reduceAdd, Int.reduceSub, Int.reduceLT, Int.reduceLE, Nat.reduceSub, Nat.reduceMul, Nat.reduceEqDiff, joinBR]
    refine nilLines_spec fun y5 z5 => ?_
    simp (disch := first | assumption | omega | (simp only [szR] <;> omega) | rfl | decide) only [gen0, gen1, gen2, rulesT, litR, bolR, Nat.reduceAdd, Nat.reduceLeDiff, numR, memR, valR, heapR, updR, intR, decR, extR, slR, segR, thenR, pnR, Int.reduceToNat, Int.reduceAdd, Int.reduceSub, Int.reduceLT, Int.reduceLE, Nat.reduceSub, Nat.reduceMul, Nat.reduceEqDiff, joinBR]
    exact hK _ ((((((hx'.trans z1 (by simp)).trans z2 (by simp)).trans z3 (by simp)).alloc _ _).trans z4 (by simp)).trans z5 (by simp))
end Go.Proofs.Ytlklhempbpphhaa
