/- The lines of two programs' events: the law of traces; conditions: those of each theorem. -/
import Derived.Test.YtgnibcaflidjmaaEv29
namespace Go.Proofs.Ytgnibcaflidjmaa
open Go.Fx
set_option maxRecDepth 100000
set_option linter.unusedSimpArgs false
set_option linter.unusedVariables false
theorem eqlSelf29 (a : List Int) (x y : Operand) (w : World) : (binV .eql 9 x y (.string (strOfNums a)) (.string (strOfNums a))).run Try.prog w = .ok (.bool true) w := by
  rw [run_eqlS]
  simp
theorem eqlNil29 {a : List Int} (h : a ≠ []) (x y : Operand) (w : World) : (binV .eql 9 x y (.string (strOfNums a)) (.string (strOfNums []))).run Try.prog w = .ok (.bool false) w := by
  rw [run_eqlS]
  have : ((strOfNums a).toList == (strOfNums []).toList) = false := by
    rw [ByteArray.toList_eq, ByteArray.toList_eq]
    cases a with
    | nil => exact absurd rfl h
    | cons x a => simp [strOfNums]
  rw [this]
theorem txL_ne (e : Ev) : txL e ≠ [] := by
  have hh : ∀ l : List Int, headL e ++ l ≠ [] := fun l => by simp [headL]
  unfold txL
  repeat' split
  all_goals simp [headL]
theorem trL_nil {id : Int} : ∀ {l : List Ev}, (∀ e ∈ l, e.p ≠ id) → trL id l = []
  | [], _ => rfl
  | e :: l, h => by
    have := trL_nil (l := l) fun d hd => h d (List.mem_cons_of_mem _ hd)
    unfold trL at this ⊢
    rw [List.flatMap_cons, this, oneL, if_neg (h e (List.mem_cons_self ..))]
    rfl
theorem trL_ne {id : Int} {l : List Ev} {e : Ev} (he : e ∈ l) (h : e.p = id) : trL id l ≠ [] := by
  intro hc
  have h1 : oneL id e = [] := by
    have := List.flatMap_eq_nil_iff.1 hc e he
    exact this
  rw [oneL, if_pos h] at h1
  exact txL_ne e h1
theorem traces_spec {w : World} {va vb : Value} {a b : List Ev} {id : Int} (ha : RowsAt w va 8 (a.map evC)) (hb : RowsAt w vb 8 (b.map evC)) (ha1 : ∀ c ∈ a, EvOk c) (hb1 : ∀ c ∈ b, EvOk c) {K : Value → World → Prop} (hK : ∀ w', Ext [] w w' → K (.bool true) w') :
    callsK Try.prog 5 #[va, vb, .int .i64 id] w K := by
  have hla := ha.lenR (ty := 3) Try.underlying36
  have hlb := hb.lenR (ty := 3) Try.underlying36
  rw [List.length_map] at hla hlb
  apply F5_ok
  unfold F5
  by_cases h1 : 40 < a.length
  · simp (disch := first | assumption | omega | (simp only [szR, List.length_append, List.length_cons, List.length_nil, evC_len2, evC_all2] <;> omega) | rfl | decide) only [gen0, gen1, gen2, rulesC, litR, bolR, Nat.reduceAdd, Nat.reduceLeDiff, numR, memR, valR, heapR, updR, intR, decR, extR, slR, segR, thenR, pnR, Int.reduceToNat, Int.reduceAdd, Int.reduceSub, Int.reduceLT, Int.reduceLE, Nat.reduceSub, Nat.reduceMul, Nat.reduceEqDiff, joinBR, hla]
    exact hK _ (by (repeat first | assumption | exact Ext.refl | apply Ext.alloc | apply Ext.drew | (refine Ext.updN ?_ ?_; (focus first | omega | (simp only [szR] <;> omega))) | (refine Ext.updI ?_ ?_; (focus (simp; done)))))
  by_cases h2 : 40 < b.length
  · simp (disch := first | assumption | omega | (simp only [szR, List.length_append, List.length_cons, List.length_nil, evC_len2, evC_all2] <;> omega) | rfl | decide) only [gen0, gen1, gen2, rulesC, litR, bolR, Nat.reduceAdd, Nat.reduceLeDiff, numR, memR, valR, heapR, updR, intR, decR, extR, slR, segR, thenR, pnR, Int.reduceToNat, Int.reduceAdd, Int.reduceSub, Int.reduceLT, Int.reduceLE, Nat.reduceSub, Nat.reduceMul, Nat.reduceEqDiff, joinBR, hla, hlb]
    exact hK _ (by (repeat first | assumption | exact Ext.refl | apply Ext.alloc | apply Ext.drew | (refine Ext.updN ?_ ?_; (focus first | omega | (simp only [szR] <;> omega))) | (refine Ext.updI ?_ ?_; (focus (simp; done)))))
  simp (disch := first | assumption | omega | (simp only [szR, List.length_append, List.length_cons, List.length_nil, evC_len2, evC_all2] <;> omega) | rfl | decide) only [gen0, gen1, gen2, rulesC, litR, bolR, Nat.reduceAdd, Nat.reduceLeDiff, numR, memR, valR, heapR, updR, intR, decR, extR, slR, segR, thenR, pnR, Int.reduceToNat, Int.reduceAdd, Int.reduceSub, Int.reduceLT, Int.reduceLE, Nat.reduceSub, Nat.reduceMul, Nat.reduceEqDiff, joinBR, hla, hlb]
  have hx0 : Ext [] w (w.alloc (.cells [].toArray 35)) := by (repeat first | assumption | exact Ext.refl | apply Ext.alloc | apply Ext.drew | (refine Ext.updN ?_ ?_; (focus first | omega | (simp only [szR] <;> omega))) | (refine Ext.updI ?_ ?_; (focus (simp; done))))
  have ho : OwnR (w.alloc (.cells [].toArray 35)) w.heap.size 35 8 (.slice (some ⟨w.heap.size, 0, none⟩) 0 0) [] := OwnR.fresh0 (Nat.le_refl _)
  generalize (w.alloc (.cells [].toArray 35)) = w0 at *
  generalize (Value.slice (some ⟨w.heap.size, 0, none⟩) 0 0) = v0 at *
  refine appEv ho (ha.ext hx0 (by simp)) (ev_all _) (by simp; omega) hx0.size fun v1 w1 ho1 a1 => ?_
  have hx1 := a1.ext w [] (Nat.le_refl _) hx0
  simp (disch := first | assumption | omega | (simp only [szR, List.length_append, List.length_cons, List.length_nil, evC_len2, evC_all2] <;> omega) | rfl | decide) only [gen0, gen1, gen2, rulesC, litR, bolR, Nat.reduceAdd, Nat.reduceLeDiff, numR, memR, valR, heapR, updR, intR, decR, extR, slR, segR, thenR, pnR, Int.reduceToNat, Int.reduceAdd, Int.reduceSub, Int.reduceLT, Int.reduceLE, Nat.reduceSub, Nat.reduceMul, Nat.reduceEqDiff, joinBR]
  refine appEv ho1 (hb.ext hx1 (by simp)) (ev_all _) (by simp; omega) hx1.size fun v2 w2 ho2 a2 => ?_
  have hx2 := a2.ext w [] (Nat.le_refl _) hx1
  have hr : RowsAt w2 v2 8 ((a ++ b).map evC) := by
    have := ho2.rows
    rw [List.nil_append, ← List.map_append] at this
    exact this
  have hok : ∀ c ∈ a ++ b, EvOk c := fun c hc => (List.mem_append.1 hc).elim (ha1 c) (hb1 c)
  have hll : (a ++ b).length ≤ 80 := by simp; omega
  have hta := trL_len (id := id) ha1
  have htb := trL_len (id := id) hb1
  have hlr := hr.lenR (ty := 3) Try.underlying36
  rw [List.length_map] at hlr
  have happ := trL_app id a b
  generalize hgl : a ++ b = l at *
  refine loopT.intro (fun st w' => ∃ (k : Nat) (z : Int) (f : Bool), k ≤ l.length ∧ st = [.bool f, .int .i64 z] ∧ z = k ∧ (f = true ↔ ∀ e ∈ l.take k, e.p ≠ id) ∧ w' = w2)
    (fun st _ => match st with
      | [_, .int _ z] => l.length - z.toNat
      | _ => 0) ⟨0, 0, true, by omega, rfl, rfl, by simp, rfl⟩ ?_
  rintro st w' ⟨k, z, f, hk, rfl, rfl, hf, rfl⟩ _
  by_cases hlt : k < l.length
  · obtain ⟨bb, o, cap, La, E, fz, he, hbb, hfit, -, hget⟩ := hr.row (k := k) (r := evC l[k]) (by simp [hlt])
    have hix : ∀ w, (Instr.indexAt 36 v2 (.int .i64 k)).run Try.prog w = .ok (.pointer (some ⟨bb, o + k * 8, none⟩)) w := by
      rw [he]
      intro w
      simp (disch := first | assumption | omega | (simp only [szR, List.length_append, List.length_cons, List.length_nil, evC_len2, evC_all2] <;> omega) | rfl | decide) only [gen0, gen1, gen2, rulesC, litR, bolR, Nat.reduceAdd, Nat.reduceLeDiff, numR, memR, valR, heapR, updR, intR, decR, extR, slR, segR, thenR, pnR, Int.reduceToNat, Int.reduceAdd, Int.reduceSub, Int.reduceLT, Int.reduceLE, Nat.reduceSub, Nat.reduceMul, Nat.reduceEqDiff, List.length_map]
    have hg0 : ∀ p, p = o + k * 8 → La[p]? = some (.int .i64 l[k].p) := fun p hp => by rw [hget p (by omega) (by omega)]; subst hp; simp [evC]
    have htk : l.take (k + 1) = l.take k ++ [l[k]] := List.take_succ_eq_append_getElem hlt
    clear hget
    generalize l[k] = c at hg0 htk
    cases f with
    | false =>
      simp (disch := first | assumption | omega | (simp only [szR, List.length_append, List.length_cons, List.length_nil, evC_len2, evC_all2] <;> omega) | rfl | decide) only [gen0, gen1, gen2, rulesC, litR, bolR, Nat.reduceAdd, Nat.reduceLeDiff, numR, memR, valR, heapR, updR, intR, decR, extR, slR, segR, thenR, pnR, Int.reduceToNat, Int.reduceAdd, Int.reduceSub, Int.reduceLT, Int.reduceLE, Nat.reduceSub, Nat.reduceMul, Nat.reduceEqDiff, joinBR, hlr]
      refine ⟨⟨k + 1, (k : Int) + 1, false, by omega, rfl, by omega, ?_, trivial⟩, by simp; omega⟩
      rw [htk]
      refine ⟨fun h => (by cases h), fun h => hf.2 fun e he => h e (List.mem_append_left _ he)⟩
    | true =>
      have hall := hf.1 rfl
      by_cases hp : c.p = id
      · simp (disch := first | assumption | omega | (simp only [szR, List.length_append, List.length_cons, List.length_nil, evC_len2, evC_all2] <;> omega) | rfl | decide) only [gen0, gen1, gen2, rulesC, litR, bolR, Nat.reduceAdd, Nat.reduceLeDiff, numR, memR, valR, heapR, updR, intR, decR, extR, slR, segR, thenR, pnR, Int.reduceToNat, Int.reduceAdd, Int.reduceSub, Int.reduceLT, Int.reduceLE, Nat.reduceSub, Nat.reduceMul, Nat.reduceEqDiff, joinBR, hlr, hix, hbb, hg0]
        refine ⟨⟨k + 1, (k : Int) + 1, false, by omega, rfl, by omega, ?_, trivial⟩, by simp; omega⟩
        rw [htk]
        exact ⟨fun h => (by cases h), fun h => absurd hp (h c (by simp))⟩
      · simp (disch := first | assumption | omega | (simp only [szR, List.length_append, List.length_cons, List.length_nil, evC_len2, evC_all2] <;> omega) | rfl | decide) only [gen0, gen1, gen2, rulesC, litR, bolR, Nat.reduceAdd, Nat.reduceLeDiff, numR, memR, valR, heapR, updR, intR, decR, extR, slR, segR, thenR, pnR, Int.reduceToNat, Int.reduceAdd, Int.reduceSub, Int.reduceLT, Int.reduceLE, Nat.reduceSub, Nat.reduceMul, Nat.reduceEqDiff, joinBR, hlr, hix, hbb, hg0]
        refine ⟨⟨k + 1, (k : Int) + 1, true, by omega, rfl, by omega, ?_, trivial⟩, by simp; omega⟩
        rw [htk]
        refine ⟨fun _ e he => (List.mem_append.1 he).elim (hall e) fun h => by rw [List.mem_singleton.1 h]; exact hp, fun _ => rfl⟩
  · obtain rfl : k = l.length := by omega
    rw [List.take_length] at hf
    simp (disch := first | assumption | omega | (simp only [szR, List.length_append, List.length_cons, List.length_nil, evC_len2, evC_all2] <;> omega) | rfl | decide) only [gen0, gen1, gen2, rulesC, litR, bolR, Nat.reduceAdd, Nat.reduceLeDiff, numR, memR, valR, heapR, updR, intR, decR, extR, slR, segR, thenR, pnR, Int.reduceToNat, Int.reduceAdd, Int.reduceSub, Int.reduceLT, Int.reduceLE, Nat.reduceSub, Nat.reduceMul, Nat.reduceEqDiff, joinBR, hlr]
    refine Trace_spec hr hok (by omega) fun w3 hx3 => ?_
    simp (disch := first | assumption | omega | (simp only [szR, List.length_append, List.length_cons, List.length_nil, evC_len2, evC_all2] <;> omega) | rfl | decide) only [gen0, gen1, gen2, rulesC, litR, bolR, Nat.reduceAdd, Nat.reduceLeDiff, numR, memR, valR, heapR, updR, intR, decR, extR, slR, segR, thenR, pnR, Int.reduceToNat, Int.reduceAdd, Int.reduceSub, Int.reduceLT, Int.reduceLE, Nat.reduceSub, Nat.reduceMul, Nat.reduceEqDiff, joinBR]
    refine Trace_spec (ha.ext (hx2.trans hx3 (by simp)) (by simp)) ha1 (by omega) fun w4 hx4 => ?_
    have hx24 := (hx2.trans hx3 (by simp)).trans hx4 (by simp)
    simp (disch := first | assumption | omega | (simp only [szR, List.length_append, List.length_cons, List.length_nil, evC_len2, evC_all2] <;> omega) | rfl | decide) only [gen0, gen1, gen2, rulesC, litR, bolR, Nat.reduceAdd, Nat.reduceLeDiff, numR, memR, valR, heapR, updR, intR, decR, extR, slR, segR, thenR, pnR, Int.reduceToNat, Int.reduceAdd, Int.reduceSub, Int.reduceLT, Int.reduceLE, Nat.reduceSub, Nat.reduceMul, Nat.reduceEqDiff, joinBR]
    refine Trace_spec (hb.ext hx24 (by simp)) hb1 (by omega) fun w5 hx5 => ?_
    have hx25 := hx24.trans hx5 (by simp)
    rw [happ]
    cases f with
    | true =>
      have hn := trL_nil (hf.1 rfl)
      rw [happ] at hn
      simp (disch := first | assumption | omega | (simp only [szR, List.length_append, List.length_cons, List.length_nil, evC_len2, evC_all2] <;> omega) | rfl | decide) only [gen0, gen1, gen2, rulesC, litR, bolR, Nat.reduceAdd, Nat.reduceLeDiff, numR, memR, valR, heapR, updR, intR, decR, extR, slR, segR, thenR, pnR, Int.reduceToNat, Int.reduceAdd, Int.reduceSub, Int.reduceLT, Int.reduceLE, Nat.reduceSub, Nat.reduceMul, Nat.reduceEqDiff, joinBR, addN, eqlSelf29, hn, b0]
      refine one19_spec fun w6 hx6 => ?_
      simp (disch := first | assumption | omega | (simp only [szR, List.length_append, List.length_cons, List.length_nil, evC_len2, evC_all2] <;> omega) | rfl | decide) only [gen0, gen1, gen2, rulesC, litR, bolR, Nat.reduceAdd, Nat.reduceLeDiff, numR, memR, valR, heapR, updR, intR, decR, extR, slR, segR, thenR, pnR, Int.reduceToNat, Int.reduceAdd, Int.reduceSub, Int.reduceLT, Int.reduceLE, Nat.reduceSub, Nat.reduceMul, Nat.reduceEqDiff, joinBR]
      exact hK _ (hx25.trans hx6 (by simp))
    | false =>
      have hn : trL id a ++ trL id b ≠ [] := by
        rw [← happ]
        intro hc
        have : ∀ e ∈ l, e.p ≠ id := fun e he hp => trL_ne he hp hc
        exact absurd (hf.2 this) (by simp)
      have hq := eqlNil29 hn
      simp (disch := first | assumption | omega | (simp only [szR, List.length_append, List.length_cons, List.length_nil, evC_len2, evC_all2] <;> omega) | rfl | decide) only [gen0, gen1, gen2, rulesC, litR, bolR, Nat.reduceAdd, Nat.reduceLeDiff, numR, memR, valR, heapR, updR, intR, decR, extR, slR, segR, thenR, pnR, Int.reduceToNat, Int.reduceAdd, Int.reduceSub, Int.reduceLT, Int.reduceLE, Nat.reduceSub, Nat.reduceMul, Nat.reduceEqDiff, joinBR, addN, eqlSelf29, hq, b0]
      refine one19_spec fun w6 hx6 => ?_
      simp (disch := first | assumption | omega | (simp only [szR, List.length_append, List.length_cons, List.length_nil, evC_len2, evC_all2] <;> omega) | rfl | decide) only [gen0, gen1, gen2, rulesC, litR, bolR, Nat.reduceAdd, Nat.reduceLeDiff, numR, memR, valR, heapR, updR, intR, decR, extR, slR, segR, thenR, pnR, Int.reduceToNat, Int.reduceAdd, Int.reduceSub, Int.reduceLT, Int.reduceLE, Nat.reduceSub, Nat.reduceMul, Nat.reduceEqDiff, joinBR]
      exact hK _ (hx25.trans hx6 (by simp))
end Go.Proofs.Ytgnibcaflidjmaa
