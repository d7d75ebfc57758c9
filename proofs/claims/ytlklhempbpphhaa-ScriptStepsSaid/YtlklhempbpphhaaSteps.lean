/- Bytes as steps: what the document's function, and the program's, tell; conditions: those of each theorem. -/
import Derived.Test.YtlklhempbpphhaaFS
import Derived.Test.YtlklhempbpphhaaRS
import Derived.Test.YtlklhempbpphhaaBits
namespace Go.Proofs.Ytlklhempbpphhaa
open Go.Fx
set_option maxRecDepth 100000
set_option linter.unusedSimpArgs false
set_option linter.unusedVariables false
/-- a step. -/
structure St where
  k : Int
  a : Int
  b : Int
def stC (s : St) : List Value := [.int .i64 s.k, .int .i64 s.a, .int .i64 s.b]
def byC (x : Int) : List Value := [.int .u8 x]
def stepOf (x y z : Int) : St := ⟨if 9 < x then 0 else x, y, z⟩
def stepsOf (bs : List Int) : List St := (List.range (bs.length / 3)).map fun j => stepOf (bs.getD (3 * j) 0) (bs.getD (3 * j + 1) 0) (bs.getD (3 * j + 2) 0)
theorem stepsOf_length (bs : List Int) : (stepsOf bs).length = bs.length / 3 := by simp [stepsOf]
theorem stepsOf_get {bs : List Int} {j : Nat} (h : 3 * j + 2 < bs.length) : (stepsOf bs)[j]? = some (stepOf (bs[3 * j]'(by omega)) (bs[3 * j + 1]'(by omega)) bs[3 * j + 2]) := by
  have h1 : j < bs.length / 3 := by omega
  simp [stepsOf, h1, h, show 3 * j < bs.length by omega, show 3 * j + 1 < bs.length by omega]
theorem stC_all (l : List St) : ∀ r ∈ l.map stC, r.all (fun v => v.oneCell') = true := by
  intro r hr
  obtain ⟨l, -, rfl⟩ := List.mem_map.1 hr
  rfl
theorem app33 {base : Nat} {v x : Value} {rows rows2 : List (List Value)} {w : World} {K : Value → World → Prop} (hown : OwnR w base 40 3 v rows) (hx : RowsAt w x 3 rows2) (h1 : ∀ r ∈ rows2, r.all (fun v => v.oneCell') = true)
    (hl : rows.length + rows2.length ≤ 1000000) (hbase : base ≤ w.heap.size) (hK : ∀ v' w', OwnR w' base 40 3 v' (rows ++ rows2) → App base v w w' → K v' w') : resV K ((Builtin.append_ #[33, 33] 33 #[v, x]).run Try.prog w) :=
  kV_appR Try.underlying33 (by kernel_rfl) (by omega) (bytes := 24) hown hx h1 (by simp only [maxLen]; omega) (by omega) hbase hK
theorem app31 {base : Nat} {v x : Value} {rows rows2 : List (List Value)} {w : World} {K : Value → World → Prop} (hown : OwnR w base 5 1 v rows) (hx : RowsAt w x 1 rows2) (h1 : ∀ r ∈ rows2, r.all (fun v => v.oneCell') = true)
    (hl : rows.length + rows2.length ≤ 1000000) (hbase : base ≤ w.heap.size) (hK : ∀ v' w', OwnR w' base 5 1 v' (rows ++ rows2) → App base v w w' → K v' w') : resV K ((Builtin.append_ #[31, 31] 31 #[v, x]).run Try.prog w) :=
  kV_appR Try.underlying31 (by kernel_rfl) (by omega) (bytes := 1) hown hx h1 (by simp only [maxLen]; omega) (by omega) hbase hK
theorem byGet {bs : List Int} {i : Nat} (h : i < bs.length) : (bs.map byC)[i]? = some (byC bs[i]) := by simp [h]
theorem rSteps_spec {w : World} {t : Value} {bs : List Int} (ht : RowsAt w t 1 (bs.map byC)) (hb : ∀ x ∈ bs, 0 ≤ x ∧ x < 256) (hl : bs.length ≤ 10000) {K : Value → World → Prop}
    (hK : ∀ v w', OwnR w' w.heap.size 40 3 v ((stepsOf bs).map stC) → Ext [] w w' → K v w') : callsK Try.prog 14 #[t] w K := by
  apply F14_ok
  unfold F14
  have hln := ht.lenR (ty := 3) Try.underlying31
  rw [List.length_map] at hln
  refine loopT.intro (fun st w' => ∃ (j : Nat) (z : Int) (v : Value), j ≤ bs.length / 3 ∧ st = [v, .int .i64 z] ∧ z = 3 * j ∧ OwnR w' w.heap.size 40 3 v (((stepsOf bs).take j).map stC) ∧ Ext [] w w')
    (fun st _ => match st with
      | [_, .int _ z] => bs.length + 3 - z.toNat
      | _ => 0) ⟨0, 0, _, Nat.zero_le _, rfl, rfl, OwnR.nil, Ext.refl⟩ ?_
  rintro st w' ⟨j, z, v, hj, rfl, rfl, hown, hx⟩ _
  have ht' := ht.ext hx (by simp)
  by_cases hjl : 3 * j + 2 < bs.length
  · have hg := stepsOf_get hjl
    obtain ⟨b0, o0, l0, E0, f0, i0, m0, n0, q0, -, -, g0⟩ := ht'.ixR Try.underlying31 Try.sizeOf5 (byGet (show 3 * j < bs.length by omega))
    obtain ⟨b1, o1, l1, E1, f1, i1, m1, n1, q1, -, -, g1⟩ := ht'.ixR Try.underlying31 Try.sizeOf5 (byGet (show 3 * j + 1 < bs.length by omega))
    obtain ⟨b2, o2, l2, E2, f2, i2, m2, n2, q2, -, -, g2⟩ := ht'.ixR Try.underlying31 Try.sizeOf5 (byGet hjl)
    have k0 := hb _ (List.getElem_mem (show 3 * j < bs.length by omega))
    have k1 := hb _ (List.getElem_mem (show 3 * j + 1 < bs.length by omega))
    have k2 := hb _ (List.getElem_mem hjl)
    generalize bs[3 * j] = x0 at hg g0 k0
    generalize bs[3 * j + 1] = x1 at hg g1 k1
    generalize bs[3 * j + 2] = x2 at hg g2 k2
    have e0 : l0[o0]? = some (.int .u8 x0) := g0 o0 0 rfl (by omega)
    have e1 : l1[o1]? = some (.int .u8 x1) := g1 o1 0 rfl (by omega)
    have e2 : l2[o2]? = some (.int .u8 x2) := g2 o2 0 rfl (by omega)
    simp (disch := first | assumption | omega | (simp only [szR] <;> omega) | rfl | decide) only [gen0, gen1, gen2, rulesS, litR, bolR, Nat.reduceAdd, Nat.reduceLeDiff, numR, memR, valR, heapR, updR, intR, decR, extR, slR, segR, thenR, Int.reduceToNat, Int.reduceAdd, Int.reduceSub, Int.reduceLT, Int.reduceLE, Nat.reduceSub, Nat.reduceMul, Nat.reduceEqDiff, hln]
    refine joinL.intro fun J2 hJ2 => ?_
    simp (disch := first | assumption | omega | (simp only [szR] <;> omega) | rfl | decide) only [gen0, gen1, gen2, rulesS, litR, bolR, Nat.reduceAdd, Nat.reduceLeDiff, numR, memR, valR, heapR, updR, intR, decR, extR, slR, segR, thenR, Int.reduceToNat, Int.reduceAdd, Int.reduceSub, Int.reduceLT, Int.reduceLE, Nat.reduceSub, Nat.reduceMul, Nat.reduceEqDiff, i0, i1, i2, m0, m1, m2, e0, e1, e2, and_self]
    apply hJ2
    intro _
    have hc : (w'.drew.alloc (.cells [.int .i64 x0, .int .i64 x1, .int .i64 x2].toArray 40)).heap[w'.heap.size]? = some (.cells [.int .i64 x0, .int .i64 x1, .int .i64 x2].toArray 40 (0, 0)) := by simp (disch := first | assumption | omega | (simp only [szR] <;> omega) | rfl | decide) only [gen0, gen1, gen2, rulesS, litR, bolR, Nat.reduceAdd, Nat.reduceLeDiff, numR, memR, valR, heapR, updR, intR, decR, extR, slR, segR, thenR, Int.reduceToNat, Int.reduceAdd, Int.reduceSub, Int.reduceLT, Int.reduceLE, Nat.reduceSub, Nat.reduceMul, Nat.reduceEqDiff]
    have hx1 : Ext [] w' (w'.drew.alloc (.cells [.int .i64 x0, .int .i64 x1, .int .i64 x2].toArray 40)) := by (repeat first | assumption | exact Ext.refl | apply Ext.alloc | apply Ext.drew | (refine Ext.updN ?_ ?_; (focus first | omega | (simp only [szR] <;> omega))) | (refine Ext.updI ?_ ?_; (focus (simp; done))))
    have hsz := hx1.size
    generalize w'.drew.alloc (.cells [.int .i64 x0, .int .i64 x1, .int .i64 x2].toArray 40) = wc at hc hx1 hsz
    have hcl := lt_of_at hc
    refine joinL.intro fun J4 hJ4 => ?_
    have hrest : ∀ w2, w2.heap[w'.heap.size]? = some (.cells (stC (stepOf x0 x1 x2)).toArray 40 (0, 0)) → Ext [] w' w2 → J4 [] w2 := by
      intro w2 h1 h2
      apply hJ4
      intro _
      have h3 : (stC (stepOf x0 x1 x2)).length = 3 := rfl
      have h4 : sub (stC (stepOf x0 x1 x2)) 0 3 = stC (stepOf x0 x1 x2) := rfl
      have hx2 : Ext [] w2 (w2.alloc (.cells (stC (stepOf x0 x1 x2)).toArray 40)) := by (repeat first | assumption | exact Ext.refl | apply Ext.alloc | apply Ext.drew | (refine Ext.updN ?_ ?_; (focus first | omega | (simp only [szR] <;> omega))) | (refine Ext.updI ?_ ?_; (focus (simp; done))))
      have hsl := stepsOf_length bs
      simp (disch := first | assumption | omega | (simp only [szR] <;> omega) | rfl | decide) only [gen0, gen1, gen2, rulesS, litR, bolR, Nat.reduceAdd, Nat.reduceLeDiff, numR, memR, valR, heapR, updR, intR, decR, extR, slR, segR, thenR, Int.reduceToNat, Int.reduceAdd, Int.reduceSub, Int.reduceLT, Int.reduceLE, Nat.reduceSub, Nat.reduceMul, Nat.reduceEqDiff, h1, h4]
      refine app33 ((hown.ext h2 (by simp)).ext hx2 (by simp)) (RowsAt.one (alloc_at rfl) h3) (fun r hr => by rw [List.mem_singleton.1 hr]; rfl) (by simp; omega) (Nat.le_trans hx.size (Nat.le_trans h2.size hx2.size)) fun v' w3 h5 a5 => ?_
      simp (disch := first | assumption | omega | (simp only [szR] <;> omega) | rfl | decide) only [gen0, gen1, gen2, rulesS, litR, bolR, Nat.reduceAdd, Nat.reduceLeDiff, numR, memR, valR, heapR, updR, intR, decR, extR, slR, segR, thenR, Int.reduceToNat, Int.reduceAdd, Int.reduceSub, Int.reduceLT, Int.reduceLE, Nat.reduceSub, Nat.reduceMul, Nat.reduceEqDiff]
      refine ⟨⟨j + 1, _, v', by omega, rfl, by omega, ?_, a5.ext w [] (Nat.le_refl _) ((hx.trans h2 (by simp)).trans hx2 (by simp))⟩, by omega⟩
      rw [List.take_add_one, hg]
      simpa using h5
    by_cases h9 : 9 < x0
    · simp (disch := first | assumption | omega | (simp only [szR] <;> omega) | rfl | decide) only [gen0, gen1, gen2, rulesS, litR, bolR, Nat.reduceAdd, Nat.reduceLeDiff, numR, memR, valR, heapR, updR, intR, decR, extR, slR, segR, thenR, Int.reduceToNat, Int.reduceAdd, Int.reduceSub, Int.reduceLT, Int.reduceLE, Nat.reduceSub, Nat.reduceMul, Nat.reduceEqDiff, hc]
      refine hrest _ ?_ (by (repeat first | assumption | exact Ext.refl | apply Ext.alloc | apply Ext.drew | (refine Ext.updN ?_ ?_; (focus first | omega | (simp only [szR] <;> omega))) | (refine Ext.updI ?_ ?_; (focus (simp; done)))))
      simp (disch := first | assumption | omega | (simp only [szR] <;> omega) | rfl | decide) only [gen0, gen1, gen2, rulesS, litR, bolR, Nat.reduceAdd, Nat.reduceLeDiff, numR, memR, valR, heapR, updR, intR, decR, extR, slR, segR, thenR, Int.reduceToNat, Int.reduceAdd, Int.reduceSub, Int.reduceLT, Int.reduceLE, Nat.reduceSub, Nat.reduceMul, Nat.reduceEqDiff, hc]
      simp [stC, stepOf, h9]
    · simp (disch := first | assumption | omega | (simp only [szR] <;> omega) | rfl | decide) only [gen0, gen1, gen2, rulesS, litR, bolR, Nat.reduceAdd, Nat.reduceLeDiff, numR, memR, valR, heapR, updR, intR, decR, extR, slR, segR, thenR, Int.reduceToNat, Int.reduceAdd, Int.reduceSub, Int.reduceLT, Int.reduceLE, Nat.reduceSub, Nat.reduceMul, Nat.reduceEqDiff, hc]
      refine hrest _ ?_ hx1
      rw [hc]
      simp [stC, stepOf, h9]
  · obtain rfl : j = bs.length / 3 := by omega
    simp (disch := first | assumption | omega | (simp only [szR] <;> omega) | rfl | decide) only [gen0, gen1, gen2, rulesS, litR, bolR, Nat.reduceAdd, Nat.reduceLeDiff, numR, memR, valR, heapR, updR, intR, decR, extR, slR, segR, thenR, Int.reduceToNat, Int.reduceAdd, Int.reduceSub, Int.reduceLT, Int.reduceLE, Nat.reduceSub, Nat.reduceMul, Nat.reduceEqDiff, hln]
    rw [List.take_of_length_le (by rw [stepsOf_length]; omega)] at hown
    exact hK _ _ hown hx
theorem iter_spec {w : World} {f tv : Value} {p : Nat} {E : TypeId} {bs : List Int} {I : Nat → World → Prop} {c : Nat → Bool} {S : List Nat} (hp : w.heap[p]? = some (.cells [tv].toArray E (0, 0))) (ht : RowsAt w tv 1 (bs.map byC)) (hb : ∀ x ∈ bs, 0 ≤ x ∧ x < 256) (hl : bs.length ≤ 10000)
    (hS : bs ≠ [] → ∀ b, blockOf tv = some b → b ∉ S) (hI : I 0 w) (hIe : ∀ k w w', I k w → Ext [] w w' → I k w')
    (hf : ∀ k x w', (stepsOf bs)[k]? = some x → I k w' → Ext S w w' → ∀ K : Value → World → Prop, (∀ w'', I (k + 1) w'' → Ext S w' w'' → K (.bool (c k)) w'') → kN Try.prog (callN f #[.agg (stC x).toArray]) w' K) {K : Value → World → Prop}
    (hK : ∀ k w', k ≤ bs.length / 3 → I k w' → Ext S w w' → (k = bs.length / 3 ∧ (∀ i, i < k → c i = true) ∨ (0 < k ∧ c (k - 1) = false ∧ ∀ i, i < k - 1 → c i = true)) → K (.tuple #[]) w') : callsK Try.prog 51 #[f, .pointer (some ⟨p, 0, none⟩)] w K := by
  apply F51_ok
  unfold F51
  simp (disch := first | assumption | omega | (simp only [szR] <;> omega) | rfl | decide) only [gen0, gen1, gen2, rulesS, litR, bolR, Nat.reduceAdd, Nat.reduceLeDiff, numR, memR, valR, heapR, updR, intR, decR, extR, slR, segR, thenR, Int.reduceToNat, Int.reduceAdd, Int.reduceSub, Int.reduceLT, Int.reduceLE, Nat.reduceSub, Nat.reduceMul, Nat.reduceEqDiff, hp]
  refine loopT.intro (fun st w' => ∃ (j : Nat) (v : Value), j ≤ bs.length / 3 ∧ st = [v] ∧ RowsAt w' v 1 ((bs.drop (3 * j)).map byC) ∧ blockOf v = blockOf tv ∧ I j w' ∧ Ext S w w' ∧ ∀ i, i < j → c i = true)
    (fun st _ => match st with
      | [.slice _ n _] => n
      | _ => 0) ⟨0, tv, Nat.zero_le _, rfl, by simpa using ht, rfl, hI, Ext.refl, by simp⟩ ?_
  rintro st w' ⟨j, v, hj, rfl, hv, hbv, hI', hx, hci⟩ _
  have hln := hv.lenR (ty := 3) Try.underlying31
  have hdl : ((bs.drop (3 * j)).map byC).length = bs.length - 3 * j := by simp
  rw [hdl] at hln
  by_cases hjl : 3 * j + 2 < bs.length
  · have hg := stepsOf_get hjl
    have r0 : ((bs.drop (3 * j)).map byC)[0]? = some (byC (bs[3 * j]'(by omega))) := by simp [show 3 * j < bs.length by omega]
    have r1 : ((bs.drop (3 * j)).map byC)[1]? = some (byC (bs[3 * j + 1]'(by omega))) := by simp [show 3 * j + 1 < bs.length by omega]
    have r2 : ((bs.drop (3 * j)).map byC)[2]? = some (byC bs[3 * j + 2]) := by simp [hjl]
    obtain ⟨b0, o0, l0, E0, f0, i0, m0, n0, q0, -, -, g0⟩ := hv.ixR Try.underlying31 Try.sizeOf5 r0
    obtain ⟨b1, o1, l1, E1, f1, i1, m1, n1, q1, -, -, g1⟩ := hv.ixR Try.underlying31 Try.sizeOf5 r1
    obtain ⟨b2, o2, l2, E2, f2, i2, m2, n2, q2, -, -, g2⟩ := hv.ixR Try.underlying31 Try.sizeOf5 r2
    have k0 := hb _ (List.getElem_mem (show 3 * j < bs.length by omega))
    have k1 := hb _ (List.getElem_mem (show 3 * j + 1 < bs.length by omega))
    have k2 := hb _ (List.getElem_mem hjl)
    generalize bs[3 * j] = x0 at hg g0 k0
    generalize bs[3 * j + 1] = x1 at hg g1 k1
    generalize bs[3 * j + 2] = x2 at hg g2 k2
    have e0 : l0[o0]? = some (.int .u8 x0) := g0 o0 0 rfl (by omega)
    have e1 : l1[o1]? = some (.int .u8 x1) := g1 o1 0 rfl (by omega)
    have e2 : l2[o2]? = some (.int .u8 x2) := g2 o2 0 rfl (by omega)
    have j0 := fun w kd => i0 w kd 0 rfl
    have j1 := fun w kd => i1 w kd 1 rfl
    have j2 := fun w kd => i2 w kd 2 rfl
    simp (disch := first | assumption | omega | (simp only [szR] <;> omega) | rfl | decide) only [gen0, gen1, gen2, rulesS, litR, bolR, Nat.reduceAdd, Nat.reduceLeDiff, numR, memR, valR, heapR, updR, intR, decR, extR, slR, segR, thenR, Int.reduceToNat, Int.reduceAdd, Int.reduceSub, Int.reduceLT, Int.reduceLE, Nat.reduceSub, Nat.reduceMul, Nat.reduceEqDiff, hln]
    refine joinL.intro fun J2 hJ2 => ?_
    simp (disch := first | assumption | omega | (simp only [szR] <;> omega) | rfl | decide) only [gen0, gen1, gen2, rulesS, litR, bolR, Nat.reduceAdd, Nat.reduceLeDiff, numR, memR, valR, heapR, updR, intR, decR, extR, slR, segR, thenR, Int.reduceToNat, Int.reduceAdd, Int.reduceSub, Int.reduceLT, Int.reduceLE, Nat.reduceSub, Nat.reduceMul, Nat.reduceEqDiff, j0, j1, j2, m0, m1, m2, e0, e1, e2, and_self]
    apply hJ2
    intro _
    have hc : (w'.drew.alloc (.cells [.int .i64 x0, .int .i64 x1, .int .i64 x2].toArray 39)).heap[w'.heap.size]? = some (.cells [.int .i64 x0, .int .i64 x1, .int .i64 x2].toArray 39 (0, 0)) := by simp (disch := first | assumption | omega | (simp only [szR] <;> omega) | rfl | decide) only [gen0, gen1, gen2, rulesS, litR, bolR, Nat.reduceAdd, Nat.reduceLeDiff, numR, memR, valR, heapR, updR, intR, decR, extR, slR, segR, thenR, Int.reduceToNat, Int.reduceAdd, Int.reduceSub, Int.reduceLT, Int.reduceLE, Nat.reduceSub, Nat.reduceMul, Nat.reduceEqDiff]
    have hx1 : Ext [] w' (w'.drew.alloc (.cells [.int .i64 x0, .int .i64 x1, .int .i64 x2].toArray 39)) := by (repeat first | assumption | exact Ext.refl | apply Ext.alloc | apply Ext.drew | (refine Ext.updN ?_ ?_; (focus first | omega | (simp only [szR] <;> omega))) | (refine Ext.updI ?_ ?_; (focus (simp; done))))
    have hsz := hx1.size
    generalize w'.drew.alloc (.cells [.int .i64 x0, .int .i64 x1, .int .i64 x2].toArray 39) = wc at hc hx1 hsz
    have hcl := lt_of_at hc
    refine joinL.intro fun J4 hJ4 => ?_
    have hrest : ∀ w2, w2.heap[w'.heap.size]? = some (.cells (stC (stepOf x0 x1 x2)).toArray 39 (0, 0)) → Ext [] w' w2 → J4 [] w2 := by
      intro w2 h1 h2
      apply hJ4
      intro _
      have h3 : (stC (stepOf x0 x1 x2)).length = 3 := rfl
      have h4 : sub (stC (stepOf x0 x1 x2)) 0 3 = stC (stepOf x0 x1 x2) := rfl
      have hxs : Ext S w w2 := hx.trans h2 (by simp)
      simp (disch := first | assumption | omega | (simp only [szR] <;> omega) | rfl | decide) only [gen0, gen1, gen2, rulesS, litR, bolR, Nat.reduceAdd, Nat.reduceLeDiff, numR, memR, valR, heapR, updR, intR, decR, extR, slR, segR, thenR, Int.reduceToNat, Int.reduceAdd, Int.reduceSub, Int.reduceLT, Int.reduceLE, Nat.reduceSub, Nat.reduceMul, Nat.reduceEqDiff, h1, h4]
      refine hf j _ w2 hg (hIe j _ _ hI' h2) hxs _ fun w3 hI3 hx3 => ?_
      have hxf := hxs.trans hx3 (fun k hk => .inl hk)
      cases hcj : c j with
      | false =>
        simp (disch := first | assumption | omega | (simp only [szR] <;> omega) | rfl | decide) only [gen0, gen1, gen2, rulesS, litR, bolR, Nat.reduceAdd, Nat.reduceLeDiff, numR, memR, valR, heapR, updR, intR, decR, extR, slR, segR, thenR, Int.reduceToNat, Int.reduceAdd, Int.reduceSub, Int.reduceLT, Int.reduceLE, Nat.reduceSub, Nat.reduceMul, Nat.reduceEqDiff, hcj]
        exact hK (j + 1) w3 (by omega) hI3 hxf (.inr ⟨by omega, hcj, hci⟩)
      | true =>
        simp (disch := first | assumption | omega | (simp only [szR] <;> omega) | rfl | decide) only [gen0, gen1, gen2, rulesS, litR, bolR, Nat.reduceAdd, Nat.reduceLeDiff, numR, memR, valR, heapR, updR, intR, decR, extR, slR, segR, thenR, Int.reduceToNat, Int.reduceAdd, Int.reduceSub, Int.reduceLT, Int.reduceLE, Nat.reduceSub, Nat.reduceMul, Nat.reduceEqDiff, hcj]
        have hv3 := (hv.ext h2 (by simp)).at hx3 (fun b hb => hS (fun h => by simp [h] at hjl) b (hbv ▸ hb))
        refine kV_cut Try.underlying31 Try.sizeOf5 hv3 3 _ (by rw [hdl]; omega) (Nat.le_refl _) (.inr ⟨_, _, rfl, rfl⟩) (.inl ⟨rfl, rfl⟩) fun v10 h10 b10 => ?_
        have h11 := h10 _ hv3
        rw [List.take_length, ← List.map_drop, List.drop_drop] at h11
        refine ⟨⟨j + 1, v10, by omega, rfl, h11, b10.trans hbv, hI3, hxf, fun i hi => ?_⟩, ?_⟩
        · rcases Nat.lt_succ_iff_lt_or_eq.1 hi with h | rfl
          · exact hci i h
          · exact hcj
        · obtain ⟨a1, c1, rfl⟩ := h11.len
          obtain ⟨a2, c2, rfl⟩ := hv.len
          simp
          omega
    by_cases h9 : 9 < x0
    · simp (disch := first | assumption | omega | (simp only [szR] <;> omega) | rfl | decide) only [gen0, gen1, gen2, rulesS, litR, bolR, Nat.reduceAdd, Nat.reduceLeDiff, numR, memR, valR, heapR, updR, intR, decR, extR, slR, segR, thenR, Int.reduceToNat, Int.reduceAdd, Int.reduceSub, Int.reduceLT, Int.reduceLE, Nat.reduceSub, Nat.reduceMul, Nat.reduceEqDiff, hc]
      refine hrest _ ?_ (by (repeat first | assumption | exact Ext.refl | apply Ext.alloc | apply Ext.drew | (refine Ext.updN ?_ ?_; (focus first | omega | (simp only [szR] <;> omega))) | (refine Ext.updI ?_ ?_; (focus (simp; done)))))
      simp (disch := first | assumption | omega | (simp only [szR] <;> omega) | rfl | decide) only [gen0, gen1, gen2, rulesS, litR, bolR, Nat.reduceAdd, Nat.reduceLeDiff, numR, memR, valR, heapR, updR, intR, decR, extR, slR, segR, thenR, Int.reduceToNat, Int.reduceAdd, Int.reduceSub, Int.reduceLT, Int.reduceLE, Nat.reduceSub, Nat.reduceMul, Nat.reduceEqDiff, hc]
      simp [stC, stepOf, h9]
    · simp (disch := first | assumption | omega | (simp only [szR] <;> omega) | rfl | decide) only [gen0, gen1, gen2, rulesS, litR, bolR, Nat.reduceAdd, Nat.reduceLeDiff, numR, memR, valR, heapR, updR, intR, decR, extR, slR, segR, thenR, Int.reduceToNat, Int.reduceAdd, Int.reduceSub, Int.reduceLT, Int.reduceLE, Nat.reduceSub, Nat.reduceMul, Nat.reduceEqDiff, hc]
      refine hrest _ ?_ hx1
      rw [hc]
      simp [stC, stepOf, h9]
  · obtain rfl : j = bs.length / 3 := by omega
    simp (disch := first | assumption | omega | (simp only [szR] <;> omega) | rfl | decide) only [gen0, gen1, gen2, rulesS, litR, bolR, Nat.reduceAdd, Nat.reduceLeDiff, numR, memR, valR, heapR, updR, intR, decR, extR, slR, segR, thenR, Int.reduceToNat, Int.reduceAdd, Int.reduceSub, Int.reduceLT, Int.reduceLE, Nat.reduceSub, Nat.reduceMul, Nat.reduceEqDiff, hln]
    exact hK _ w' (Nat.le_refl _) hI' hx (.inl ⟨rfl, hci⟩)
end Go.Proofs.Ytlklhempbpphhaa
