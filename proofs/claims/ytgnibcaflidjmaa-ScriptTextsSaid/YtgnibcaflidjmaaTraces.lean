/- The lines of a program's events; conditions: those of each theorem. -/
import Derived.Test.YtgnibcaflidjmaaScript2
namespace Go.Proofs.Ytgnibcaflidjmaa
open Go.Fx
set_option maxRecDepth 100000
set_option linter.unusedSimpArgs false
set_option linter.unusedVariables false
theorem evC_len2 (e : Ev) : (evC e).length = 8 := by simp [evC]
theorem evC_all2 (e : Ev) : (evC e).all (fun v => v.oneCell') = true := by simp [evC]; exact ⟨rfl, rfl, rfl, rfl, rfl, rfl, rfl, rfl⟩
def oneL (id : Int) (e : Ev) : List Int := if e.p = id then txL e else []
def trL (id : Int) (l : List Ev) : List Int := l.flatMap (oneL id)
theorem oneL_len {id : Int} {e : Ev} (h : EvOk e) : (oneL id e).length ≤ 300 := by
  have := txL_len h
  unfold oneL
  split
  · omega
  · simp
theorem trL_len {id : Int} : ∀ {l : List Ev}, (∀ c ∈ l, EvOk c) → (trL id l).length ≤ l.length * 300
  | [], _ => by simp [trL]
  | c :: l, h => by
    have h1 := oneL_len (id := id) (h c (List.mem_cons_self ..))
    have h2 := trL_len (id := id) (l := l) fun d hd => h d (List.mem_cons_of_mem _ hd)
    unfold trL at h2 ⊢
    rw [List.flatMap_cons, List.length_append, List.length_cons]
    omega
theorem trL_take {id : Int} {l : List Ev} {k : Nat} (h : k < l.length) : trL id (l.take (k + 1)) = trL id (l.take k) ++ oneL id l[k] := by
  unfold trL
  rw [List.take_succ_eq_append_getElem h, List.flatMap_append]
  simp
theorem trL_app (id : Int) (a b : List Ev) : trL id (a ++ b) = trL id a ++ trL id b := by simp [trL]
theorem ev_all (L : List Ev) : ∀ r ∈ L.map evC, r.all (fun v => v.oneCell') = true := by
  intro r hr
  obtain ⟨d, -, rfl⟩ := List.mem_map.1 hr
  rfl
theorem Trace_spec {w : World} {v : Value} {l : List Ev} {id : Int} (hv : RowsAt w v 8 (l.map evC)) (hl : ∀ c ∈ l, EvOk c) (h100 : l.length ≤ 100) {K : Value → World → Prop} (hK : ∀ w', Ext [] w w' → K (.string (strOfNums (trL id l))) w') :
    callsK Try.prog 16 #[v, .int .i64 id] w K := by
  have hlen : (l.map evC).length = l.length := List.length_map ..
  have hlv := hv.lenR (ty := 3) Try.underlying36
  rw [hlen] at hlv
  apply F16_ok
  unfold F16
  simp (disch := first | assumption | omega | (simp only [szR, List.length_append, List.length_cons, List.length_nil, evC_len2, evC_all2] <;> omega) | rfl | decide) only [gen0, gen1, gen2, rulesC, litR, bolR, Nat.reduceAdd, Nat.reduceLeDiff, numR, memR, valR, heapR, updR, intR, decR, extR, slR, segR, thenR, pnR, Int.reduceToNat, Int.reduceAdd, Int.reduceSub, Int.reduceLT, Int.reduceLE, Nat.reduceSub, Nat.reduceMul, Nat.reduceEqDiff, hlv]
  refine loopT.intro (fun st w' => ∃ (k : Nat) (z : Int), k ≤ l.length ∧ st = [.int .i64 z] ∧ z = k ∧ Bld w w' w.heap.size (trL id (l.take k)) ∧ Ext [] w w')
    (fun st _ => match st with
      | [.int _ z] => l.length - z.toNat
      | _ => 0) ⟨0, 0, by omega, rfl, rfl, Bld.fresh (Nat.le_refl _), by (repeat first | assumption | exact Ext.refl | apply Ext.alloc | apply Ext.drew | (refine Ext.updN ?_ ?_; (focus first | omega | (simp only [szR] <;> omega))) | (refine Ext.updI ?_ ?_; (focus (simp; done))))⟩ ?_
  rintro st w' ⟨k, z, hk, rfl, rfl, hB, hx⟩ _
  have hv' := hv.ext hx (by simp)
  by_cases hlt : k < l.length
  · obtain ⟨b, o, cap, La, E, f, he, hb, hfit, hsub, -⟩ := hv'.row (k := k) (r := evC l[k]) (by simp [hlt])
    have hok := hl l[k] (List.getElem_mem hlt)
    have hix : ∀ w, (Instr.indexAt 36 v (.int .i64 k)).run Try.prog w = .ok (.pointer (some ⟨b, o + k * 8, none⟩)) w := by
      rw [he]
      intro w
      simp (disch := first | assumption | omega | (simp only [szR, List.length_append, List.length_cons, List.length_nil, evC_len2, evC_all2] <;> omega) | rfl | decide) only [gen0, gen1, gen2, rulesC, litR, bolR, Nat.reduceAdd, Nat.reduceLeDiff, numR, memR, valR, heapR, updR, intR, decR, extR, slR, segR, thenR, pnR, Int.reduceToNat, Int.reduceAdd, Int.reduceSub, Int.reduceLT, Int.reduceLE, Nat.reduceSub, Nat.reduceMul, Nat.reduceEqDiff, hlen]
    have htl := trL_len (id := id) (l := l.take k) fun c hc => hl c (List.mem_of_mem_take hc)
    rw [List.length_take, Nat.min_eq_left hk] at htl
    have htk := trL_take (id := id) hlt
    generalize l[k] = c at hsub hok htk
    have hat := evC_at c
    have hol := oneL_len (id := id) hok
    have hov : splice [.int .i64 0, .int .i64 0, .int .u64 0, .int .i64 0, .int .i64 0, .bool false, .int .u64 0, .int .u64 0] 0 (evC c) = evC c := rfl
    simp (disch := first | assumption | omega | (simp only [szR, List.length_append, List.length_cons, List.length_nil, evC_len2, evC_all2] <;> omega) | rfl | decide) only [gen0, gen1, gen2, rulesC, litR, bolR, Nat.reduceAdd, Nat.reduceLeDiff, numR, memR, valR, heapR, updR, intR, decR, extR, slR, segR, thenR, pnR, Int.reduceToNat, Int.reduceAdd, Int.reduceSub, Int.reduceLT, Int.reduceLE, Nat.reduceSub, Nat.reduceMul, Nat.reduceEqDiff]
    refine joinL.intro fun J2 hJ2 => ?_
    have hrest : ∀ w2, Bld w w2 w.heap.size (trL id (l.take k) ++ oneL id c) → Ext [] w w2 → J2 [] w2 := by
      intro w2 h1 h2
      apply hJ2
      intro _
      simp (disch := first | assumption | omega | (simp only [szR, List.length_append, List.length_cons, List.length_nil, evC_len2, evC_all2] <;> omega) | rfl | decide) only [gen0, gen1, gen2, rulesC, litR, bolR, Nat.reduceAdd, Nat.reduceLeDiff, numR, memR, valR, heapR, updR, intR, decR, extR, slR, segR, thenR, pnR, Int.reduceToNat, Int.reduceAdd, Int.reduceSub, Int.reduceLT, Int.reduceLE, Nat.reduceSub, Nat.reduceMul, Nat.reduceEqDiff]
      exact ⟨⟨k + 1, (k : Int) + 1, by omega, rfl, by omega, by rw [htk]; exact h1, h2⟩, by simp; omega⟩
    clear hJ2 hK
    by_cases hp : c.p = id
    · have ho : oneL id c = txL c := by rw [oneL, if_pos hp]
      rw [ho] at hrest hol
      simp (disch := first | assumption | omega | (simp only [szR, List.length_append, List.length_cons, List.length_nil, evC_len2, evC_all2] <;> omega) | rfl | decide) only [gen0, gen1, gen2, rulesC, litR, bolR, Nat.reduceAdd, Nat.reduceLeDiff, numR, memR, valR, heapR, updR, intR, decR, extR, slR, segR, thenR, pnR, Int.reduceToNat, Int.reduceAdd, Int.reduceSub, Int.reduceLT, Int.reduceLE, Nat.reduceSub, Nat.reduceMul, Nat.reduceEqDiff, hix, hb, hsub, hov, hat, evC_sub]
      refine stext_spec hok fun w2 hx2 => ?_
      have hxw : Ext [] w' w2 := Ext.trans (S := []) (by (repeat first | assumption | exact Ext.refl | apply Ext.alloc | apply Ext.drew | (refine Ext.updN ?_ ?_; (focus first | omega | (simp only [szR] <;> omega))) | (refine Ext.updI ?_ ?_; (focus (simp; done))))) hx2 (by simp)
      simp (disch := first | assumption | omega | (simp only [szR, List.length_append, List.length_cons, List.length_nil, evC_len2, evC_all2] <;> omega) | rfl | decide) only [gen0, gen1, gen2, rulesC, litR, bolR, Nat.reduceAdd, Nat.reduceLeDiff, numR, memR, valR, heapR, updR, intR, decR, extR, slR, segR, thenR, pnR, Int.reduceToNat, Int.reduceAdd, Int.reduceSub, Int.reduceLT, Int.reduceLE, Nat.reduceSub, Nat.reduceMul, Nat.reduceEqDiff]
      refine WriteString_spec (hB.ext hxw) (hx.trans hxw (by simp)) (by omega) fun v5 w5 hB5 hx5 => ?_
      exact hrest _ hB5 hx5
    · have ho : oneL id c = [] := by rw [oneL, if_neg hp]
      rw [ho, List.append_nil] at hrest
      simp (disch := first | assumption | omega | (simp only [szR, List.length_append, List.length_cons, List.length_nil, evC_len2, evC_all2] <;> omega) | rfl | decide) only [gen0, gen1, gen2, rulesC, litR, bolR, Nat.reduceAdd, Nat.reduceLeDiff, numR, memR, valR, heapR, updR, intR, decR, extR, slR, segR, thenR, pnR, Int.reduceToNat, Int.reduceAdd, Int.reduceSub, Int.reduceLT, Int.reduceLE, Nat.reduceSub, Nat.reduceMul, Nat.reduceEqDiff, hix, hb, hsub, hov, hat, evC_sub]
      have hx1 : Ext [] w' (w'.alloc (.cells (evC c).toArray 35)) := by (repeat first | assumption | exact Ext.refl | apply Ext.alloc | apply Ext.drew | (refine Ext.updN ?_ ?_; (focus first | omega | (simp only [szR] <;> omega))) | (refine Ext.updI ?_ ?_; (focus (simp; done))))
      exact hrest _ (hB.ext hx1) (hx.trans hx1 (by simp))
  · obtain rfl : k = l.length := by omega
    rw [List.take_length] at hB
    simp (disch := first | assumption | omega | (simp only [szR, List.length_append, List.length_cons, List.length_nil, evC_len2, evC_all2] <;> omega) | rfl | decide) only [gen0, gen1, gen2, rulesC, litR, bolR, Nat.reduceAdd, Nat.reduceLeDiff, numR, memR, valR, heapR, updR, intR, decR, extR, slR, segR, thenR, pnR, Int.reduceToNat, Int.reduceAdd, Int.reduceSub, Int.reduceLT, Int.reduceLE, Nat.reduceSub, Nat.reduceMul, Nat.reduceEqDiff]
    exact BString_spec hB hx hK
theorem own29_spec {w : World} {e : Ev} (he : EvOk e) {K : Value → World → Prop} (hK : ∀ w', Ext [] w w' → K (.string (strOfNums (txL e))) w') : callsK Try.prog 13 #[.agg (evC e).toArray] w K := by
  apply F13_ok
  unfold F13
  have hat := evC_at e
  have hcp : cpC e.t e.m e.a = [.bool e.t, .int .u64 e.m, .int .u64 e.a] := rfl
  have hev : [.int .i64 e.p, .int .i64 e.k, .int .u64 e.pc, .int .i64 e.op, .int .i64 e.code, .bool e.t, .int .u64 e.m, .int .u64 e.a] = evC e := rfl
  simp (disch := first | assumption | omega | (simp only [szR, List.length_append, List.length_cons, List.length_nil, evC_len2, evC_all2] <;> omega) | rfl | decide) only [gen0, gen1, gen2, rulesC, litR, bolR, Nat.reduceAdd, Nat.reduceLeDiff, numR, memR, valR, heapR, updR, intR, decR, extR, slR, segR, thenR, pnR, Int.reduceToNat, Int.reduceAdd, Int.reduceSub, Int.reduceLT, Int.reduceLE, Nat.reduceSub, Nat.reduceMul, Nat.reduceEqDiff, hat, evC_cap, hcp]
  try rw [hev]
  refine rtext_spec he fun w2 hx2 => ?_
  exact hK _ (Ext.trans (S := []) (by (repeat first | assumption | exact Ext.refl | apply Ext.alloc | apply Ext.drew | (refine Ext.updN ?_ ?_; (focus first | omega | (simp only [szR] <;> omega))) | (refine Ext.updI ?_ ?_; (focus (simp; done))))) hx2 (by simp))
end Go.Proofs.Ytgnibcaflidjmaa
