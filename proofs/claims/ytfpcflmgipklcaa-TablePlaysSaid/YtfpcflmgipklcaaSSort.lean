/- The elements of a slice, gathered and sorted anew: how many they are; conditions: those of each theorem. -/
import Derived.Sort.OwnSortedInts
import Derived.Test.YtfpcflmgipklcaaPAll
import Derived.Test.YtfpcflmgipklcaaShelf
namespace Go.Proofs.Ytfpcflmgipklcaa
open Go Go.Fx Go.RowKit Go.Shelf
attribute [local go_sem] Oper.semAt_some
set_option maxRecDepth 100000
set_option linter.unusedSimpArgs false
set_option linter.unusedVariables false
theorem infoI : (Try.prog.info? 3).map (fun i => (i.zero, i.size, i.bytes)) = some (some (.int .i64 0), 1, 8) := by kernel_rfl
set_option maxHeartbeats 2000000 in
theorem appendSeq_in {w : World} {Bs : Nat} {sv : Value} {zs : List Int} (hBs : Boxed w Bs 38 sv) (hI : IntsAt w.heap.size w sv zs) (hlen : zs.length ≤ 1000) :
    CallsIn Fence.wide 6 Try.prog 79 #[.slice none 0 0, .func (.func 70) #[] #[.pointer (some ⟨Bs, 0, none⟩)]] w fun e W' => ∃ v, e = .returned v ∧ W'.ownsRow w.heap.size 3 1 v zs.length (zs.map (Value.int .i64)) ∧ Below w.heap.size w W' := by
  obtain ⟨i0, hi, hz0, hz1, hz2⟩ := info_parts infoI
  refine callsIn_of_wp_marks Try.func79 rfl trivial ?_ rfl
  simp only [Try.ntmps79, List.size_toArray, List.length_cons, List.length_nil, Nat.reduceAdd, Nat.reduceSub, Array.replicate_succ, Array.replicate_zero, List.push_toArray, List.append_toArray, List.nil_append, List.cons_append]
  gi_wp2
  have bO := Boxed.new w 38 (.slice none 0 0)
  have hB0 : Below w.heap.size w (w.alloc (.cells #[.slice none 0 0] 38)) := (Below.refl _ w).alloc (Nat.le_refl _) _
  have hBsl := hBs.lt
  refine wpIn_rangeFunc_ownG rfl (by omega) (gf := 70) (lb := #[.pointer (some ⟨Bs, 0, none⟩)]) rfl trivial (enters_of Try.func70 (by kernel_rfl) rfl)
    (sv_values_stops Fence.wide (6 - 1) trivial rfl (by omega) Bs w.heap.size sv zs (by omega) _ (by simp; omega) (by simp) (hBs.alloc _).cell (hI.below hB0)) belowK_t (belowK_b (by simp)) (Below.refl _ _) (fun _ => rfl)
    (fun pre W => (∃ v, Boxed W w.heap.size 38 v ∧ W.ownsRow w.heap.size 3 1 v pre.length (pre.map (Value.int .i64)) ∧ True) ∧ Below w.heap.size w W)
    (fun _ _ _ => False)
    (OwnFrom.and (Own.from (holdsRow_own w.heap.size w.heap.size 38 3 1 (fun pre : List Int => pre.length) (fun pre => pre.map (Value.int .i64)) (fun pre v => True)) _) (ownFrom_below (Nat.le_refl _) (by simp)))
    (fun _ _ _ _ _ hs _ _ => hs)
    ⟨⟨_, bO, World.ownsRow_nil _ _ _ _, trivial⟩, hB0⟩
    (fun x => { tmps := #[.slice none 0 0, .func (.func 70) #[] #[.pointer (some ⟨Bs, 0, none⟩)], .pointer (some ⟨w.heap.size, 0, none⟩), undef, .slice none 0 0, .int .i64 x, .func (.func 70) #[] #[.pointer (some ⟨Bs, 0, none⟩)], .int .i64 x, undef, undef, undef, undef, undef], defers := [] }) ?assign ?body ?done ?stop
  case assign =>
    intro l x W K hK
    gi_wp2
    exact hK
  case body =>
    rintro l pre x W ⟨⟨v, hv, hrow, -⟩, hB⟩ hlt
    have hc := hv.cell
    gi_wp2_with (gi_at_builtin; refine wpListIn_append_own _ rfl _ _ 38 rfl w.heap.size 3 i0 (.int .i64 0) 1 8 Try.underlying38 hi hz0 hz1 hz2 rfl (by decide) _ _ _ rfl (hrow.alloc _) ⟨W.heap.size, 0, none⟩ 1 1 [.int .i64 x] rfl rfl (cell_one_new _ _ _) (by simp [Value.oneCell']) (by simp [maxLen]; omega) (by omega) (by have := hB.size; simp; omega) ?_; intro v' w1 hown' hgrow _; obtain ⟨g', cap', rfl⟩ := ownsRow_succ hown'; obtain ⟨hv1, hv2, hr2, hk2, hb2⟩ := hv.appended (by decide) hrow hB.size (Nat.le_refl _) hown' hgrow; have hc1 := hv1.cell; have hf1 := hv1.frozen)
    exact ⟨hk2.from _, hb2, ⟨_, hv2, by simpa using hr2, trivial⟩, hB.trans hb2⟩
  case done =>
    rintro D ys W hD rfl ⟨⟨v, hv, hrow, -⟩, hB⟩ hK
    have hc := hv.cell
    gi_wp2
    refine ⟨by simp, .inl ⟨_, _, rfl, run_takeDeferred hK, ?_⟩⟩
    exact ⟨_, results_tmp rfl _ _ _, v, rfl, ownsRow_putObj hrow _ hK rfl, hB.trans (belowK_b (w := w) (Nat.le_refl _) W D _ _ (by simp at hD; omega) hK rfl rfl)⟩
  case stop =>
    rintro D c pre W _ _ h _
    exact h.elim
theorem appendSeq_spec {w : World} {Bs : Nat} {sv : Value} {zs : List Int} (hBs : Boxed w Bs 38 sv) (hI : IntsAt w.heap.size w sv zs) (hlen : zs.length ≤ 1000) {K : Value → World → Prop} (hK : ∀ v w', w'.ownsRow w.heap.size 3 1 v zs.length (zs.map (Value.int .i64)) → Ext [] w w' → K v w') :
    callsK Try.prog 79 #[.slice none 0 0, .func (.func 70) #[] #[.pointer (some ⟨Bs, 0, none⟩)]] w K :=
  Calls.mono (callsIn_wide.1 (appendSeq_in hBs hI hlen)) (fun e w' h => by
    obtain ⟨v, he, ho, hb⟩ := h
    exact ⟨_, he, hK v w' ho (below_ext hb)⟩)
theorem values_spec {w : World} {a : Option Addr} {n c : Nat} {K : Value → World → Prop} (hK : K (.func (.func 70) #[] #[.pointer (some ⟨w.heap.size, 0, none⟩)]) (w.alloc (.cells #[.slice a n c] 38))) : callsK Try.prog 46 #[.slice a n c] w K :=
  Calls.mono (callsIn_wide.1 (sv_values_in Fence.wide 6 trivial rfl a n c w)) (fun e w' h => by
    obtain ⟨rfl, rfl⟩ := h
    exact ⟨_, rfl, hK⟩)
theorem sort_spec {w : World} {base : Nat} {v : Value} {zs : List Int} (ho : w.ownsRow base 3 1 v zs.length (zs.map (Value.int .i64))) (hlen : zs.length ≤ 1000) {K : Value → World → Prop} (hK : ∀ w', Ext (blockOf v).toList w w' → K (.tuple #[]) w') :
    callsK Try.prog 69 #[v] w K := by
  rcases ho.2 with ⟨rfl, h0⟩ | ⟨g, cap, cur, rfl, hb, hg, hn, hc, hs, ht⟩
  · exact Calls.mono (Try.slices_Sort_int_none none 0 w) (fun e w' h => by
      obtain ⟨rfl, rfl⟩ := h
      exact ⟨_, rfl, hK _ Ext.refl⟩)
  · have hH : Sort.Holds (Value.int .i64) w g 0 zs.toArray := by
      intro j hj
      have hj2 : j < zs.length := by simpa using hj
      have h1 : cur.toList[j]? = some (.int .i64 zs[j]) := by
        have this : (cur.toList.take (zs.length * 1))[j]? = (zs.map (Value.int .i64))[j]? := by rw [ht]
        rw [List.getElem?_take_of_lt (by omega), List.getElem?_map, List.getElem?_eq_getElem hj2] at this
        exact this
      have e : zs.toArray[j]! = zs[j] := by simp [hj2]
      rw [e]
      refine ⟨?_, ?_⟩
      · rw [cell_of_block (l := cur.toList) (by simpa using hg), Nat.zero_add]
        exact h1
      · simp [World.frozen?, hg]
    refine Calls.mono (Try.slices_Sort_int g 0 cap zs w hH (lt_of_at hg) (by omega)) (fun e w' h => ?_)
    obtain ⟨rfl, n, os, rfl⟩ := h
    have hgr := grownBy_sortedI (w := w) (g := g) (n := n) (os := os) (zs.mergeSort fun x y => decide (x ≤ y)).toArray
    exact ⟨_, rfl, hK _ ⟨hgr.os, hgr.tape, hgr.output, hgr.size, fun k hk hm => hgr.block k hk (fun e => hm (by cases e; simp [blockOf]))⟩⟩
theorem sorted_spec {w : World} {Bs : Nat} {sv : Value} {zs : List Int} (hBs : Boxed w Bs 38 sv) (hI : IntsAt w.heap.size w sv zs) (hlen : zs.length ≤ 1000) {K : Value → World → Prop} (hK : ∀ a c w', Ext [] w w' → K (.slice a zs.length c) w') :
    callsK Try.prog 45 #[.func (.func 70) #[] #[.pointer (some ⟨Bs, 0, none⟩)]] w K := by
  apply F45_ok
  unfold F45
  have hcol : ∀ (K : Value → World → Prop), (∀ v w', w'.ownsRow w.heap.size 3 1 v zs.length (zs.map (Value.int .i64)) → Ext [] w w' → K v w') → callsK Try.prog 68 #[.func (.func 70) #[] #[.pointer (some ⟨Bs, 0, none⟩)]] w K := by
    intro K hK
    apply F68_ok
    unfold F68
    simp (disch := first | assumption | omega | (simp only [szR] <;> omega) | rfl | decide) only [gen0, gen1, gen2, rulesT, litR, bolR, Nat.reduceAdd, Nat.reduceLeDiff, numR, memR, valR, heapR, updR, intR, decR, extR, slR, segR, thenR, pnR, Int.reduceToNat, Int.reduceAdd, Int.reduceSub, Int.reduceLT, Int.reduceLE, Nat.reduceSub, Nat.reduceMul, Nat.reduceEqDiff]
    exact appendSeq_spec hBs hI hlen hK
  simp (disch := first | assumption | omega | (simp only [szR] <;> omega) | rfl | decide) only [gen0, gen1, gen2, rulesT, litR, bolR, Nat.reduceAdd, Nat.reduceLeDiff, numR, memR, valR, heapR, updR, intR, decR, extR, slR, segR, thenR, pnR, Int.reduceToNat, Int.reduceAdd, Int.reduceSub, Int.reduceLT, Int.reduceLE, Nat.reduceSub, Nat.reduceMul, Nat.reduceEqDiff]
  refine hcol _ fun v w1 ho hx => ?_
  simp (disch := first | assumption | omega | (simp only [szR] <;> omega) | rfl | decide) only [gen0, gen1, gen2, rulesT, litR, bolR, Nat.reduceAdd, Nat.reduceLeDiff, numR, memR, valR, heapR, updR, intR, decR, extR, slR, segR, thenR, pnR, Int.reduceToNat, Int.reduceAdd, Int.reduceSub, Int.reduceLT, Int.reduceLE, Nat.reduceSub, Nat.reduceMul, Nat.reduceEqDiff]
  have hf : ∃ a c, v = .slice a zs.length c := by
    rcases ho.2 with ⟨rfl, h0⟩ | ⟨g, cap, cur, rfl, rest⟩
    · exact ⟨none, 0, by rw [h0]⟩
    · exact ⟨_, _, rfl⟩
  refine sort_spec ho hlen fun w2 hx2 => ?_
  have hx3 : Ext [] w w2 := hx.trans hx2 (fun k hk => by
    rcases ho.2 with ⟨rfl, h0⟩ | ⟨g, cap, cur, rfl, hb, rest⟩
    · simp [blockOf] at hk
    · simp [blockOf] at hk
      right
      omega)
  refine Exists.elim hf fun a hf => Exists.elim hf fun c hf => ?_
  rw [hf]
  exact hK a c w2 hx3
end Go.Proofs.Ytfpcflmgipklcaa
