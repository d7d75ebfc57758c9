/- What the law's second body does with a page; conditions: those of each theorem. -/
import Derived.Test.YtfpcflmgipklcaaTTells3
namespace Go.Proofs.Ytfpcflmgipklcaa
open Go.Fx
set_option maxRecDepth 100000
set_option linter.unusedSimpArgs false
set_option linter.unusedVariables false
set_option maxHeartbeats 1000000
/-- where the law stands, in its second body: so many were told. -/
structure Few (w0 w : World) (tb r q p n : Nat) (m g : Nat → Int) (t : Nat) (fs : List Nat) (bf bn bb bl b3 mr bw : Nat) (most : Int) (cnt bef few : Nat) : Prop where
  sit : Sit w0 w tb r q p n m g t fs bf bn bb bl b3 mr most cnt bef
  few : w.heap[bw]? = some (.cells [.int .i64 (few : Nat)].toArray 3 (0, 0))
  off : Off w0 w tb r q p fs bw
  ne : bw ≠ bf ∧ bw ≠ bn ∧ bw ≠ bb ∧ bw ≠ bl ∧ bw ≠ b3
theorem Few.step {w0 w w' : World} {tb r q p n : Nat} {m g : Nat → Int} {t : Nat} {fs : List Nat} {bf bn bb bl b3 mr bw : Nat} {most : Int} {cnt bef few : Nat} (h : Few w0 w tb r q p n m g t fs bf bn bb bl b3 mr bw most cnt bef few) (hx : Ext [] w w') : Few w0 w' tb r q p n m g t fs bf bn bb bl b3 mr bw most cnt bef few :=
  ⟨h.sit.step hx, hx.at h.few (by simp), h.off.step' h.sit.tab hx (by simp), h.ne⟩
theorem few29 {w0 w : World} {tb r q p n : Nat} {m g : Nat → Int} {t : Nat} {fs : List Nat} {bf bn bb bl b3 mr bw : Nat} {most : Int} {cnt bef few c : Nat} (hc : bitI .and .i64 most 7 = (c : Int)) (hc8 : c < 8) {va x : Nat} (h : Few w0 w tb r q p n m g t fs bf bn bb bl b3 mr bw most cnt bef few) (hfc : few ≤ c) {K : Value → World → Prop}
    (hK1 : few + 1 ≤ c → ∀ w', Few w0 w' tb r q p n m g t fs bf bn bb bl b3 mr bw most cnt bef (few + 1) → K (.bool true) w')
    (hK2 : c < few + 1 → ∀ w', Few w0 w' tb r q p n m g t fs bf bn bb bl b3 mr bw most cnt bef (few + 1) → K (.bool false) w') :
    callsK Try.prog 29 #[.int .u64 (va : Nat), .agg (entC (fl x) (fr x)).toArray, .pointer (some ⟨bw, 0, none⟩), .pointer (some ⟨b3, 0, none⟩)] w K := by
  have hx1 : Ext [] w (w.alloc (.cells (entC (fl x) (fr x)).toArray 40)) := Ext.alloc Ext.refl _ _
  have h1 := h.step hx1
  obtain ⟨n1, n2, n3, n4, n5⟩ := h.ne
  have m5 := n5.symm
  have e1 : ((few : Nat) : Int) + 1 = ((few + 1 : Nat) : Int) := by omega
  have hput : ∀ w', w' = World.upd (w.alloc (.cells (entC (fl x) (fr x)).toArray 40)) bw [.int .i64 (few + 1 : Nat)] → Few w0 w' tb r q p n m g t fs bf bn bb bl b3 mr bw most cnt bef (few + 1) := by
    rintro w' rfl
    have hxu : Ext [bw] (w.alloc (.cells (entC (fl x) (fr x)).toArray 40)) (World.upd (w.alloc (.cells (entC (fl x) (fr x)).toArray 40)) bw [.int .i64 (few + 1 : Nat)]) := Ext.updI (by simp) Ext.refl
    have s := h1.sit
    have htb : tb ∉ [bw] := by simp [h1.off.ne.2.2.2.symm]
    refine ⟨⟨s.tab.out hxu fun b hb => ?_, hxu.at s.fine (by simp [n1.symm]), hxu.at s.cnt (by simp [n2.symm]), hxu.at s.bef (by simp [n3.symm]), hxu.at s.lst (by simp [n4.symm]), hxu.at s.mst (by simp [n5.symm]), s.map.ext hxu (by simp [map_ne s.map h1.few]), ⟨s.off.1.step' s.tab hxu htb, s.off.2.1.step' s.tab hxu htb, s.off.2.2.step' s.tab hxu htb⟩, s.ne⟩, ?_, h1.off.step' s.tab hxu htb, h1.ne⟩
    · rw [List.mem_singleton.1 hb]
      exact ⟨h1.off.lo, h1.off.ne.1, h1.off.ne.2.1, h1.off.ne.2.2.1, h1.off.ne.2.2.2, h1.off.own⟩
    · exact upd_at h1.few
  have c1 := h1.few
  have c2 := h1.sit.mst
  have l1 := lt_of_at h.few
  have l2 := lt_of_at h.sit.mst
  apply F29_ok
  unfold F29
  by_cases hle : few + 1 ≤ c
  · have e5 : decide (((few + 1 : Nat) : Int) ≤ (c : Int)) = true := decide_eq_true (by omega)
    simp (disch := first | assumption | omega | (simp only [szR, tgC_len, tgC_all, entC_len, entC_all, plC_len, plC_all, tbC_len, tbC_all] <;> omega) | rfl | decide) only [gen0, gen1, gen2, rulesM, rulesT, rulesP, litR, bolR, Nat.reduceAdd, Nat.reduceLeDiff, numR, memR, valR, heapR, updR, intR, decR, extR, slR, segR, thenR, pnR, Int.reduceToNat, Int.reduceAdd, Int.reduceSub, Int.reduceLT, Int.reduceLE, Nat.reduceSub, Nat.reduceMul, Nat.reduceEqDiff, joinBR, c1, c2, h.few, h.sit.mst, e1, hc, e5]
    exact hK1 hle _ (hput _ rfl)
  · have e5 : decide (((few + 1 : Nat) : Int) ≤ (c : Int)) = false := decide_eq_false (by omega)
    simp (disch := first | assumption | omega | (simp only [szR, tgC_len, tgC_all, entC_len, entC_all, plC_len, plC_all, tbC_len, tbC_all] <;> omega) | rfl | decide) only [gen0, gen1, gen2, rulesM, rulesT, rulesP, litR, bolR, Nat.reduceAdd, Nat.reduceLeDiff, numR, memR, valR, heapR, updR, intR, decR, extR, slR, segR, thenR, pnR, Int.reduceToNat, Int.reduceAdd, Int.reduceSub, Int.reduceLT, Int.reduceLE, Nat.reduceSub, Nat.reduceMul, Nat.reduceEqDiff, joinBR, c1, c2, h.few, h.sit.mst, e1, hc, e5]
    exact hK2 (by omega) _ (hput _ rfl)
end Go.Proofs.Ytfpcflmgipklcaa
