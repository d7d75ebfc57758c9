/- What the document's lines do, call by call; conditions: those of each theorem. -/
import Derived.Test.YtbigiabcgplkgaaFlush
namespace Go.Proofs.Ytbigiabcgplkgaa
open Go.Fx
set_option maxRecDepth 100000
set_option linter.unusedSimpArgs false
set_option linter.unusedVariables false
/-- a line of the document. -/
structure Rn where
  a : Int
  n : Int
  x : Int
def Rn.zero : Rn := ⟨0, 0, 0⟩
def rfC (l : Rn) : List Value := [.int .u64 l.a, .int .u64 l.n, .int .u64 l.x]
theorem rfC_all (R : List Rn) : ∀ r ∈ R.map rfC, r.all (fun v => v.oneCell') = true := by
  intro r hr
  obtain ⟨l, -, rfl⟩ := List.mem_map.1 hr
  rfl
theorem app70 {base : Nat} {v x : Value} {rows rows2 : List (List Value)} {w : World} {K : Value → World → Prop} (hown : OwnR w base 153 3 v rows) (hx : RowsAt w x 3 rows2) (h1 : ∀ r ∈ rows2, r.all (fun v => v.oneCell') = true)
    (hl : rows.length + rows2.length ≤ 1000000) (hbase : base ≤ w.heap.size) (hK : ∀ v' w', OwnR w' base 153 3 v' (rows ++ rows2) → App base v w w' → K v' w') : resV K ((Builtin.append_ #[86, 86] 86 #[v, x]).run Try.prog w) :=
  kV_appR Try.underlying86 (by kernel_rfl) (by omega) (bytes := 24) hown hx h1 (by simp only [maxLen]; omega) (by omega) hbase hK
/-- one more row, that was just laid. -/
theorem app70_1 {base : Nat} {v : Value} {rows : List (List Value)} {w : World} {l : Rn} {K : Value → World → Prop} (hown : OwnR w base 153 3 v rows)
    (hl : rows.length ≤ 100000) (hbase : base ≤ w.heap.size) (hK : ∀ v' w', OwnR w' base 153 3 v' (rows ++ [rfC l]) → (∀ (w0 : World) (S : List Nat), w0.heap.size ≤ base → Ext S w0 w → Ext S w0 w') → K v' w') :
    resV K ((Builtin.append_ #[86, 86] 86 #[v, .slice (some ⟨w.heap.size, 0, none⟩) 1 1]).run Try.prog (w.alloc (.cells (rfC l).toArray 153))) := by
  refine app70 (hown.ext (Ext.alloc (S := []) Ext.refl _ _) (by simp)) (OwnR.fresh (base := base) (size := 3) rfl rfl hbase).rows (fun r hr => by rw [List.mem_singleton.1 hr]; rfl) (by simp; omega) (by simp only [szR]; omega) fun v' w' ho ha => hK v' w' ho fun w0 S h0 hx => ha.ext w0 S h0 (hx.alloc _ _)
theorem filter_take {p : Rn → Bool} {R : List Rn} {k : Nat} (h : k < R.length) : ((R.take (k + 1)).filter p) = (R.take k).filter p ++ if p R[k] then [R[k]] else [] := by
  rw [List.take_succ_eq_append_getElem h, List.filter_append, List.filter_cons]
  rfl
theorem rDrop_spec {w : World} {t : Value} {R : List Rn} {a n : Int} (ht : RowsAt w t 3 (R.map rfC)) (hR : R.length ≤ 1000) {K : Value → World → Prop}
    (hK : ∀ v w', OwnR w' w.heap.size 153 3 v ((R.filter (fun l => !(l.a == a && l.n == n))).map rfC) → Ext [] w w' → K v w') : callsK Try.prog 38 #[t, .int .u64 a, .int .u64 n] w K := by
  apply F38_ok
  unfold F38
  have hlen : (R.map rfC).length = R.length := List.length_map ..
  refine loopT.intro (fun st w' => ∃ (k : Nat) (z : Int) (v : Value), k ≤ R.length ∧ st = [v, .int .i64 z] ∧ z = k ∧ OwnR w' w.heap.size 153 3 v (((R.take k).filter (fun l => !(l.a == a && l.n == n))).map rfC) ∧ Ext [] w w')
    (fun st _ => match st with
      | [_, .int _ z] => R.length - z.toNat
      | _ => 0) ⟨0, 0, _, Nat.zero_le _, rfl, rfl, OwnR.nil, Ext.refl⟩ ?_
  rintro st w' ⟨k, z, v, hk, rfl, rfl, hown, hx⟩ _
  have ht' := ht.ext hx (by simp)
  by_cases hkl : k < R.length
  · obtain ⟨g, o, cap, l, E, f, rfl, hg, hfit, hsub, hget⟩ := ht'.row (k := k) (r := rfC R[k]) (by simp [hkl])
    have hl3 : (rfC R[k]).length = 3 := rfl
    have hg0 : ∀ p, p = o + k * 3 → l[p]? = some (.int .u64 R[k].a) := fun p hp => by rw [hget p (by omega) (by omega)]; subst hp; simp [rfC]
    have hg1 : ∀ p, p = o + k * 3 + 1 → l[p]? = some (.int .u64 R[k].n) := fun p hp => by rw [hget p (by omega) (by omega)]; subst hp; simp [show o + k * 3 + 1 - (o + k * 3) = 1 by omega, rfC]
    have hft := filter_take (p := fun l => !(l.a == a && l.n == n)) hkl
    have hfl : ((R.take k).filter (fun l => !(l.a == a && l.n == n))).length ≤ 1000 := Nat.le_trans (List.length_filter_le _ _) (by simp; omega)
    simp (disch := first | assumption | omega | (simp only [szR] <;> omega) | rfl | decide) only [gen0, gen1, gen2, rulesM, rulesU, litR, bolR, Nat.reduceAdd, Nat.reduceLeDiff, numR, memR, valR, heapR, updR, intR, decR, extR, slR, segR, thenR, pnR, Int.reduceToNat, Int.reduceAdd, Int.reduceSub, Int.reduceLT, Int.reduceLE, Nat.reduceSub, Nat.reduceMul, Nat.reduceEqDiff, hlen]
    refine joinL.intro fun J2 hJ2 => ?_
    have hrest : ∀ v2 w2, OwnR w2 w.heap.size 153 3 v2 (((R.take (k + 1)).filter (fun l => !(l.a == a && l.n == n))).map rfC) → Ext [] w w2 → J2 [v2] w2 := by
      intro v2 w2 h1 h2
      apply hJ2
      intro _
      simp (disch := first | assumption | omega | (simp only [szR] <;> omega) | rfl | decide) only [gen0, gen1, gen2, rulesM, rulesU, litR, bolR, Nat.reduceAdd, Nat.reduceLeDiff, numR, memR, valR, heapR, updR, intR, decR, extR, slR, segR, thenR, pnR, Int.reduceToNat, Int.reduceAdd, Int.reduceSub, Int.reduceLT, Int.reduceLE, Nat.reduceSub, Nat.reduceMul, Nat.reduceEqDiff]
      exact ⟨⟨k + 1, _, v2, by omega, rfl, by omega, h1, h2⟩, by simp; omega⟩
    by_cases ha : R[k].a = a
    · by_cases hn : R[k].n = n
      · simp (disch := first | assumption | omega | (simp only [szR] <;> omega) | rfl | decide) only [gen0, gen1, gen2, rulesM, rulesU, litR, bolR, Nat.reduceAdd, Nat.reduceLeDiff, numR, memR, valR, heapR, updR, intR, decR, extR, slR, segR, thenR, pnR, Int.reduceToNat, Int.reduceAdd, Int.reduceSub, Int.reduceLT, Int.reduceLE, Nat.reduceSub, Nat.reduceMul, Nat.reduceEqDiff, joinBR, hg, hg0, hg1, hlen]
        refine hrest _ _ ?_ hx
        rw [hft]
        simpa [ha, hn] using hown
      · have hc : (!(R[k].a == a && R[k].n == n)) = true := by simp [ha, hn]
        rw [if_pos hc] at hft
        simp (disch := first | assumption | omega | (simp only [szR] <;> omega) | rfl | decide) only [gen0, gen1, gen2, rulesM, rulesU, litR, bolR, Nat.reduceAdd, Nat.reduceLeDiff, numR, memR, valR, heapR, updR, intR, decR, extR, slR, segR, thenR, pnR, Int.reduceToNat, Int.reduceAdd, Int.reduceSub, Int.reduceLT, Int.reduceLE, Nat.reduceSub, Nat.reduceMul, Nat.reduceEqDiff, joinBR, hg, hg0, hg1, hlen, hsub]
        refine app70_1 (l := R[k]) hown (by rw [List.length_map]; omega) hx.size fun v2 w2 h1 h2 => ?_
        refine hrest _ _ ?_ (h2 w [] (Nat.le_refl _) hx)
        rw [hft, List.map_append]
        exact h1
    · have hc : (!(R[k].a == a && R[k].n == n)) = true := by simp [ha]
      rw [if_pos hc] at hft
      simp (disch := first | assumption | omega | (simp only [szR] <;> omega) | rfl | decide) only [gen0, gen1, gen2, rulesM, rulesU, litR, bolR, Nat.reduceAdd, Nat.reduceLeDiff, numR, memR, valR, heapR, updR, intR, decR, extR, slR, segR, thenR, pnR, Int.reduceToNat, Int.reduceAdd, Int.reduceSub, Int.reduceLT, Int.reduceLE, Nat.reduceSub, Nat.reduceMul, Nat.reduceEqDiff, joinBR, hg, hg0, hg1, hlen, hsub]
      refine app70_1 (l := R[k]) hown (by rw [List.length_map]; omega) hx.size fun v2 w2 h1 h2 => ?_
      refine hrest _ _ ?_ (h2 w [] (Nat.le_refl _) hx)
      rw [hft, List.map_append]
      exact h1
  · obtain ⟨a', cap, rfl⟩ := ht'.len
    obtain rfl : k = R.length := by omega
    simp (disch := first | assumption | omega | (simp only [szR] <;> omega) | rfl | decide) only [gen0, gen1, gen2, rulesM, rulesU, litR, bolR, Nat.reduceAdd, Nat.reduceLeDiff, numR, memR, valR, heapR, updR, intR, decR, extR, slR, segR, thenR, pnR, Int.reduceToNat, Int.reduceAdd, Int.reduceSub, Int.reduceLT, Int.reduceLE, Nat.reduceSub, Nat.reduceMul, Nat.reduceEqDiff, hlen]
    rw [List.take_length] at hown
    exact hK _ _ hown hx
theorem rFlush_spec {w : World} {t : Value} {R : List Rn} {a : Int} (ht : RowsAt w t 3 (R.map rfC)) (hR : R.length ≤ 1000) {K : Value → World → Prop}
    (hK : ∀ v w', OwnR w' w.heap.size 153 3 v ((R.filter (fun l => !(l.a == a))).map rfC) → Ext [] w w' → K v w') : callsK Try.prog 39 #[t, .int .u64 a] w K := by
  apply F39_ok
  unfold F39
  have hlen : (R.map rfC).length = R.length := List.length_map ..
  refine loopT.intro (fun st w' => ∃ (k : Nat) (z : Int) (v : Value), k ≤ R.length ∧ st = [v, .int .i64 z] ∧ z = k ∧ OwnR w' w.heap.size 153 3 v (((R.take k).filter (fun l => !(l.a == a))).map rfC) ∧ Ext [] w w')
    (fun st _ => match st with
      | [_, .int _ z] => R.length - z.toNat
      | _ => 0) ⟨0, 0, _, Nat.zero_le _, rfl, rfl, OwnR.nil, Ext.refl⟩ ?_
  rintro st w' ⟨k, z, v, hk, rfl, rfl, hown, hx⟩ _
  have ht' := ht.ext hx (by simp)
  by_cases hkl : k < R.length
  · obtain ⟨g, o, cap, l, E, f, rfl, hg, hfit, hsub, hget⟩ := ht'.row (k := k) (r := rfC R[k]) (by simp [hkl])
    have hl3 : (rfC R[k]).length = 3 := rfl
    have hg0 : ∀ p, p = o + k * 3 → l[p]? = some (.int .u64 R[k].a) := fun p hp => by rw [hget p (by omega) (by omega)]; subst hp; simp [rfC]
    have hft := filter_take (p := fun l => !(l.a == a)) hkl
    have hfl : ((R.take k).filter (fun l => !(l.a == a))).length ≤ 1000 := Nat.le_trans (List.length_filter_le _ _) (by simp; omega)
    simp (disch := first | assumption | omega | (simp only [szR] <;> omega) | rfl | decide) only [gen0, gen1, gen2, rulesM, rulesU, litR, bolR, Nat.reduceAdd, Nat.reduceLeDiff, numR, memR, valR, heapR, updR, intR, decR, extR, slR, segR, thenR, pnR, Int.reduceToNat, Int.reduceAdd, Int.reduceSub, Int.reduceLT, Int.reduceLE, Nat.reduceSub, Nat.reduceMul, Nat.reduceEqDiff, hlen]
    refine joinL.intro fun J2 hJ2 => ?_
    have hrest : ∀ v2 w2, OwnR w2 w.heap.size 153 3 v2 (((R.take (k + 1)).filter (fun l => !(l.a == a))).map rfC) → Ext [] w w2 → J2 [v2] w2 := by
      intro v2 w2 h1 h2
      apply hJ2
      intro _
      simp (disch := first | assumption | omega | (simp only [szR] <;> omega) | rfl | decide) only [gen0, gen1, gen2, rulesM, rulesU, litR, bolR, Nat.reduceAdd, Nat.reduceLeDiff, numR, memR, valR, heapR, updR, intR, decR, extR, slR, segR, thenR, pnR, Int.reduceToNat, Int.reduceAdd, Int.reduceSub, Int.reduceLT, Int.reduceLE, Nat.reduceSub, Nat.reduceMul, Nat.reduceEqDiff]
      exact ⟨⟨k + 1, _, v2, by omega, rfl, by omega, h1, h2⟩, by simp; omega⟩
    by_cases ha : R[k].a = a
    · simp (disch := first | assumption | omega | (simp only [szR] <;> omega) | rfl | decide) only [gen0, gen1, gen2, rulesM, rulesU, litR, bolR, Nat.reduceAdd, Nat.reduceLeDiff, numR, memR, valR, heapR, updR, intR, decR, extR, slR, segR, thenR, pnR, Int.reduceToNat, Int.reduceAdd, Int.reduceSub, Int.reduceLT, Int.reduceLE, Nat.reduceSub, Nat.reduceMul, Nat.reduceEqDiff, joinBR, hg, hg0, hlen]
      refine hrest _ _ ?_ hx
      rw [hft]
      simpa [ha] using hown
    · have hc : (!(R[k].a == a)) = true := by simp [ha]
      rw [if_pos hc] at hft
      simp (disch := first | assumption | omega | (simp only [szR] <;> omega) | rfl | decide) only [gen0, gen1, gen2, rulesM, rulesU, litR, bolR, Nat.reduceAdd, Nat.reduceLeDiff, numR, memR, valR, heapR, updR, intR, decR, extR, slR, segR, thenR, pnR, Int.reduceToNat, Int.reduceAdd, Int.reduceSub, Int.reduceLT, Int.reduceLE, Nat.reduceSub, Nat.reduceMul, Nat.reduceEqDiff, joinBR, hg, hg0, hlen, hsub]
      refine app70_1 (l := R[k]) hown (by rw [List.length_map]; omega) hx.size fun v2 w2 h1 h2 => ?_
      refine hrest _ _ ?_ (h2 w [] (Nat.le_refl _) hx)
      rw [hft, List.map_append]
      exact h1
  · obtain ⟨a', cap, rfl⟩ := ht'.len
    obtain rfl : k = R.length := by omega
    simp (disch := first | assumption | omega | (simp only [szR] <;> omega) | rfl | decide) only [gen0, gen1, gen2, rulesM, rulesU, litR, bolR, Nat.reduceAdd, Nat.reduceLeDiff, numR, memR, valR, heapR, updR, intR, decR, extR, slR, segR, thenR, pnR, Int.reduceToNat, Int.reduceAdd, Int.reduceSub, Int.reduceLT, Int.reduceLE, Nat.reduceSub, Nat.reduceMul, Nat.reduceEqDiff, hlen]
    rw [List.take_length] at hown
    exact hK _ _ hown hx
/-- what is told of a page. -/
def rlook (R : List Rn) (a n : Int) : Rn × Bool :=
  match R.find? (fun l => l.a == a && l.n == n) with
  | some l => (l, true)
  | none => (Rn.zero, false)
theorem rLook_spec {w : World} {t : Value} {R : List Rn} {a n : Int} (ht : RowsAt w t 3 (R.map rfC)) (hR : R.length ≤ 1000) {K : Value → World → Prop}
    (hK : ∀ w', Ext [] w w' → K (.tuple #[.agg (rfC (rlook R a n).1).toArray, .bool (rlook R a n).2]) w') : callsK Try.prog 76 #[t, .int .u64 a, .int .u64 n] w K := by
  apply F76_ok
  unfold F76
  have hlen : (R.map rfC).length = R.length := List.length_map ..
  have hfin : ∀ (r : Option Rn) w', R.find? (fun l => l.a == a && l.n == n) = r → Ext [] w w' → K (.tuple #[.agg (rfC (r.getD Rn.zero)).toArray, .bool r.isSome]) w' := by
    intro r w' hr hx'
    have := hK w' hx'
    unfold rlook at this
    rw [hr] at this
    cases r <;> exact this
  simp (disch := first | assumption | omega | (simp only [szR] <;> omega) | rfl | decide) only [gen0, gen1, gen2, rulesM, rulesU, litR, bolR, Nat.reduceAdd, Nat.reduceLeDiff, numR, memR, valR, heapR, updR, intR, decR, extR, slR, segR, thenR, pnR, Int.reduceToNat, Int.reduceAdd, Int.reduceSub, Int.reduceLT, Int.reduceLE, Nat.reduceSub, Nat.reduceMul, Nat.reduceEqDiff]
  refine loopT.intro (fun st w' => ∃ (k : Nat) (z : Int), k ≤ R.length ∧ st = [.int .i64 z] ∧ z = k ∧ (∀ l ∈ R.take k, (l.a == a && l.n == n) = false) ∧ w'.heap[w.heap.size]? = some (.cells (rfC Rn.zero).toArray 153 (0, 0)) ∧ Ext [] w w' ∧ Ext [] (w.alloc (.cells (rfC Rn.zero).toArray 153)) w')
    (fun st _ => match st with
      | [.int _ z] => R.length - z.toNat
      | _ => 0) ⟨0, 0, Nat.zero_le _, rfl, rfl, by simp, by simp (disch := first | assumption | omega | (simp only [szR] <;> omega) | rfl | decide) only [gen0, gen1, gen2, rulesM, rulesU, litR, bolR, Nat.reduceAdd, Nat.reduceLeDiff, numR, memR, valR, heapR, updR, intR, decR, extR, slR, segR, thenR, pnR, Int.reduceToNat, Int.reduceAdd, Int.reduceSub, Int.reduceLT, Int.reduceLE, Nat.reduceSub, Nat.reduceMul, Nat.reduceEqDiff]; rfl, by (repeat first | assumption | exact Ext.refl | apply Ext.alloc | apply Ext.drew | (refine Ext.updN ?_ ?_; (focus first | omega | (simp only [szR] <;> omega))) | (refine Ext.updI ?_ ?_; (focus (simp; done)))), Ext.refl⟩ ?_
  rintro st w' ⟨k, z, hk, rfl, rfl, hno, hz, hx, hx1⟩ _
  have ht' := ht.ext hx (by simp)
  have hlz := lt_of_at hz
  by_cases hkl : k < R.length
  · obtain ⟨g, o, cap, l, E, f, rfl, hg, hfit, hsub, hget⟩ := ht'.row (k := k) (r := rfC R[k]) (by simp [hkl])
    have hl3 : (rfC R[k]).length = 3 := rfl
    have hg0 : ∀ p, p = o + k * 3 → l[p]? = some (.int .u64 R[k].a) := fun p hp => by rw [hget p (by omega) (by omega)]; subst hp; simp [rfC]
    have hg1 : ∀ p, p = o + k * 3 + 1 → l[p]? = some (.int .u64 R[k].n) := fun p hp => by rw [hget p (by omega) (by omega)]; subst hp; simp [show o + k * 3 + 1 - (o + k * 3) = 1 by omega, rfC]
    have hgo : (R[k].a == a && R[k].n == n) = false → ∀ w2, Ext [] w w2 → w2 = w' → (∃ k_1 z, k_1 ≤ R.length ∧ [Value.int .i64 ((k : Int) + 1)] = [Value.int .i64 z] ∧ z = (k_1 : Nat) ∧ (∀ l ∈ R.take k_1, (l.a == a && l.n == n) = false) ∧ w2.heap[w.heap.size]? = some (.cells (rfC Rn.zero).toArray 153 (0, 0)) ∧ Ext [] w w2 ∧ Ext [] (w.alloc (.cells (rfC Rn.zero).toArray 153)) w2) := by
      rintro hp w2 h2 rfl
      refine ⟨k + 1, _, by omega, rfl, by omega, ?_, hz, hx, hx1⟩
      rw [List.take_succ_eq_append_getElem (by omega)]
      intro l hl
      rcases List.mem_append.1 hl with h | h
      · exact hno l h
      · rw [List.mem_singleton.1 h]; exact hp
    by_cases ha : R[k].a = a
    · by_cases hn : R[k].n = n
      · have hp : (R[k].a == a && R[k].n == n) = true := by simp [ha, hn]
        have h1 : (rfC R[k]).all (fun v => v.oneCell') = true := rfl
        simp only [rfC, Rn.zero] at hz hsub h1
        simp (disch := first | assumption | omega | (simp only [szR] <;> omega) | rfl | decide) only [gen0, gen1, gen2, rulesM, rulesU, litR, bolR, Nat.reduceAdd, Nat.reduceLeDiff, numR, memR, valR, heapR, updR, intR, decR, extR, slR, segR, thenR, pnR, Int.reduceToNat, Int.reduceAdd, Int.reduceSub, Int.reduceLT, Int.reduceLE, Nat.reduceSub, Nat.reduceMul, Nat.reduceEqDiff, joinBR, hg, hg0, hg1, hlen, hsub, hz]
        refine hfin (some R[k]) _ ?_ (by (repeat first | assumption | exact Ext.refl | apply Ext.alloc | apply Ext.drew | (refine Ext.updN ?_ ?_; (focus first | omega | (simp only [szR] <;> omega))) | (refine Ext.updI ?_ ?_; (focus (simp; done)))))
        have e1 : (R.take k).find? (fun l => l.a == a && l.n == n) = none := List.find?_eq_none.2 fun l hl => by rw [Bool.not_eq_true]; exact hno l hl
        have e2 : (R.drop k).find? (fun l => l.a == a && l.n == n) = some R[k] := by rw [List.drop_eq_getElem_cons hkl]; exact List.find?_cons_of_pos hp
        have e3 : R.find? (fun l => l.a == a && l.n == n) = (R.take k ++ R.drop k).find? (fun l => l.a == a && l.n == n) := by rw [List.take_append_drop]
        rw [e3, List.find?_append, e1, e2]
        rfl
      · simp (disch := first | assumption | omega | (simp only [szR] <;> omega) | rfl | decide) only [gen0, gen1, gen2, rulesM, rulesU, litR, bolR, Nat.reduceAdd, Nat.reduceLeDiff, numR, memR, valR, heapR, updR, intR, decR, extR, slR, segR, thenR, pnR, Int.reduceToNat, Int.reduceAdd, Int.reduceSub, Int.reduceLT, Int.reduceLE, Nat.reduceSub, Nat.reduceMul, Nat.reduceEqDiff, joinBR, hg, hg0, hg1, hlen]
        exact ⟨hgo (by simp [ha, hn]) _ hx rfl, by simp; omega⟩
    · simp (disch := first | assumption | omega | (simp only [szR] <;> omega) | rfl | decide) only [gen0, gen1, gen2, rulesM, rulesU, litR, bolR, Nat.reduceAdd, Nat.reduceLeDiff, numR, memR, valR, heapR, updR, intR, decR, extR, slR, segR, thenR, pnR, Int.reduceToNat, Int.reduceAdd, Int.reduceSub, Int.reduceLT, Int.reduceLE, Nat.reduceSub, Nat.reduceMul, Nat.reduceEqDiff, joinBR, hg, hg0, hg1, hlen]
      exact ⟨hgo (by simp [ha]) _ hx rfl, by simp; omega⟩
  · obtain ⟨a', cap, rfl⟩ := ht'.len
    simp only [rfC, Rn.zero] at hz
    simp (disch := first | assumption | omega | (simp only [szR] <;> omega) | rfl | decide) only [gen0, gen1, gen2, rulesM, rulesU, litR, bolR, Nat.reduceAdd, Nat.reduceLeDiff, numR, memR, valR, heapR, updR, intR, decR, extR, slR, segR, thenR, pnR, Int.reduceToNat, Int.reduceAdd, Int.reduceSub, Int.reduceLT, Int.reduceLE, Nat.reduceSub, Nat.reduceMul, Nat.reduceEqDiff, hlen, hz]
    refine hfin none _ ?_ (by (repeat first | assumption | exact Ext.refl | apply Ext.alloc | apply Ext.drew | (refine Ext.updN ?_ ?_; (focus first | omega | (simp only [szR] <;> omega))) | (refine Ext.updI ?_ ?_; (focus (simp; done)))))
    rw [List.find?_eq_none]
    intro l hl
    rw [Bool.not_eq_true]
    exact hno l (by rw [List.take_of_length_le (by omega)]; exact hl)
end Go.Proofs.Ytbigiabcgplkgaa
