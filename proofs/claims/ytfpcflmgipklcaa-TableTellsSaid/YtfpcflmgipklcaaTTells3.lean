/- What the law's two bodies do with a page; conditions: those of each theorem. -/
import Derived.Test.YtfpcflmgipklcaaTTells2
namespace Go.Proofs.Ytfpcflmgipklcaa
open Go.Fx
set_option maxRecDepth 100000
set_option linter.unusedSimpArgs false
set_option linter.unusedVariables false
set_option maxHeartbeats 2000000
theorem tell28 {w0 w : World} {tb r q p n : Nat} {m g : Nat → Int} {t : Nat} {fs : List Nat} {lv : Nat → Nat} {par : Nat → Nat × Nat} {bf bn bb bl b3 mr : Nat} {most : Int} (hT : Tree m n fs lv par) (hr : fs.headD 0 = 0) {d : List (Nat × Nat)} {va x : Nat} (h : Sit w0 w tb r q p n m g t fs bf bn bb bl b3 mr most d.length (lastOf d)) (hp : (d ++ [(va, x)]) <+: pagesOf m 2 0 0) (hlen : (pagesOf m 2 0 0).length < 4611686018427387904) {K : Value → World → Prop}
    (hK : ∀ w', Sit w0 w' tb r q p n m g t fs bf bn bb bl b3 mr most (d ++ [(va, x)]).length (lastOf (d ++ [(va, x)])) → Ext [bf, bb, bn] w w' → K (.bool true) w') :
    callsK Try.prog 28 #[.int .u64 (va : Nat), .agg (entC (fl x) (fr x)).toArray, .pointer (some ⟨bf, 0, none⟩), .pointer (some ⟨bn, 0, none⟩), .pointer (some ⟨bb, 0, none⟩), .pointer (some ⟨bl, 0, none⟩)] w K := by
  obtain ⟨hv1, hv2, hv3, hv4⟩ := (tells_mem hT hr).1 (hp.subset (show (va, x) ∈ d ++ [(va, x)] by simp))
  have hpw : (d ++ [(va, x)]).Pairwise fun a b => a.1 < b.1 := pages_rise.sublist hp.sublist
  have hdl : d.length < 4611686018427387904 := by
    have := hp.length_le
    rw [List.length_append, List.length_singleton] at this
    omega
  rw [lastOf_snoc, List.length_append, List.length_singleton] at hK
  have hlast : lastF m (va / 4096) = some x := by
    unfold lastF
    rw [show va / 4096 * 4096 = va by omega, ← hv3, if_pos ⟨by omega, hv4⟩]
  have hx1 : Ext [] w (w.alloc (.cells (entC (fl x) (fr x)).toArray 40)) := Ext.alloc Ext.refl _ _
  have h1 := h.step hx1
  have hlk := run_lookM Try.underlying67 pgKey entZ h1.map (va / 4096) false
  simp only [hlast, Option.map_some, Option.getD_some, Bool.false_eq_true, if_false, pgf, entf] at hlk
  rw [show ((va / 4096 : Nat) : Int) = (va : Int) / 4096 by omega] at hlk
  have e1 : ((va : Nat) : Int).tmod 4096 = 0 := by
    rw [Int.tmod_eq_emod_of_nonneg (by omega)]
    omega
  have e2 : ((va : Nat) : Int).tdiv 4096 = ((va / 4096 : Nat) : Int) := by
    rw [Int.tdiv_eq_ediv_of_nonneg (by omega)]
    omega
  have hfin : ∀ w', w' = World.upd (World.upd (World.upd (w.alloc (.cells (entC (fl x) (fr x)).toArray 40)) bf [.bool true]) bb [.int .u64 (va : Nat)]) bn [.int .i64 (d.length + 1 : Nat)] → K (.bool true) w' := by
    rintro w' rfl
    obtain ⟨n1, n2, n3, n4, n5, n6, n7, n8, n9⟩ := h1.ne
    obtain ⟨o1, o2, o3⟩ := h1.off
    have hxu : Ext [bf, bb, bn] (w.alloc (.cells (entC (fl x) (fr x)).toArray 40)) (World.upd (World.upd (World.upd (w.alloc (.cells (entC (fl x) (fr x)).toArray 40)) bf [.bool true]) bb [.int .u64 (va : Nat)]) bn [.int .i64 (d.length + 1 : Nat)]) := by
      refine Ext.updI (by simp) (Ext.updI (by simp) (Ext.updI (by simp) Ext.refl))
    have c1 := h1.fine
    have c2 := h1.cnt
    have c3 := h1.bef
    have l1 := lt_of_at c1
    have l2 := lt_of_at c2
    have l3 := lt_of_at c3
    have htb : tb ∉ [bf, bb, bn] := by simp [o1.ne.2.2.2.symm, o2.ne.2.2.2.symm, o3.ne.2.2.2.symm]
    have hbl : bl ∉ [bf, bb, bn] := by simp [n5, n6, n7]
    have hb3 : b3 ∉ [bf, bb, bn] := by simp [n4, n8, n9]
    have hmr : mr ∉ [bf, bb, bn] := by simp [map_ne h1.map c1, map_ne h1.map c2, map_ne h1.map c3]
    refine hK _ ⟨h1.tab.out hxu fun b hb => ?_, ?_, ?_, ?_, hxu.at h1.lst hbl, hxu.at h1.mst hb3, h1.map.ext hxu hmr, ⟨o1.step' h1.tab hxu htb, o2.step' h1.tab hxu htb, o3.step' h1.tab hxu htb⟩, h1.ne⟩ ((hx1.mono (by simp)).trans hxu (fun b hb => .inl hb))
    · simp only [List.mem_cons, List.not_mem_nil, or_false] at hb
      rcases hb with e | e | e <;> subst e
      · exact ⟨o1.lo, o1.ne.1, o1.ne.2.1, o1.ne.2.2.1, o1.ne.2.2.2, o1.own⟩
      · exact ⟨o3.lo, o3.ne.1, o3.ne.2.1, o3.ne.2.2.1, o3.ne.2.2.2, o3.own⟩
      · exact ⟨o2.lo, o2.ne.1, o2.ne.2.1, o2.ne.2.2.1, o2.ne.2.2.2, o2.own⟩
    · (first | with_reducible rfl | assumption | (simp (disch := first | assumption | omega | (simp only [szR, tgC_len, tgC_all, entC_len, entC_all, plC_len, plC_all, tbC_len, tbC_all] <;> omega) | rfl | decide) only [gen0, gen1, gen2, rulesM, rulesT, rulesP, litR, bolR, Nat.reduceAdd, Nat.reduceLeDiff, numR, memR, valR, heapR, updR, intR, decR, extR, slR, segR, thenR, pnR, Int.reduceToNat, Int.reduceAdd, Int.reduceSub, Int.reduceLT, Int.reduceLE, Nat.reduceSub, Nat.reduceMul, Nat.reduceEqDiff, c1] <;> try rfl))
    · (first | with_reducible rfl | assumption | (simp (disch := first | assumption | omega | (simp only [szR, tgC_len, tgC_all, entC_len, entC_all, plC_len, plC_all, tbC_len, tbC_all] <;> omega) | rfl | decide) only [gen0, gen1, gen2, rulesM, rulesT, rulesP, litR, bolR, Nat.reduceAdd, Nat.reduceLeDiff, numR, memR, valR, heapR, updR, intR, decR, extR, slR, segR, thenR, pnR, Int.reduceToNat, Int.reduceAdd, Int.reduceSub, Int.reduceLT, Int.reduceLE, Nat.reduceSub, Nat.reduceMul, Nat.reduceEqDiff, c2] <;> try rfl))
    · (first | with_reducible rfl | assumption | (simp (disch := first | assumption | omega | (simp only [szR, tgC_len, tgC_all, entC_len, entC_all, plC_len, plC_all, tbC_len, tbC_all] <;> omega) | rfl | decide) only [gen0, gen1, gen2, rulesM, rulesT, rulesP, litR, bolR, Nat.reduceAdd, Nat.reduceLeDiff, numR, memR, valR, heapR, updR, intR, decR, extR, slR, segR, thenR, pnR, Int.reduceToNat, Int.reduceAdd, Int.reduceSub, Int.reduceLT, Int.reduceLE, Nat.reduceSub, Nat.reduceMul, Nat.reduceEqDiff, c3] <;> try rfl))
  have c1 := h1.fine
  have c2 := h1.cnt
  have c3 := h1.bef
  have c4 := h1.lst
  have l1 := lt_of_at h.fine
  have l2 := lt_of_at h.cnt
  have l3 := lt_of_at h.bef
  have l4 := lt_of_at h.lst
  obtain ⟨n1, n2, n3, n4, n5, n6, n7, n8, n9⟩ := h.ne
  have m1 := n1.symm
  have m2 := n2.symm
  have m3 := n3.symm
  apply F28_ok
  unfold F28
  by_cases hd : d = []
  · have e3 : ((d.length : Nat) : Int) = 0 := by rw [hd]; rfl
    have e4 : ((0 : Int) + 1) = ((d.length + 1 : Nat) : Int) := by rw [hd]; rfl
    have e5 : decide (((d.length : Nat) : Int) = 0) = true := decide_eq_true e3
    simp (disch := first | assumption | omega | (simp only [szR, tgC_len, tgC_all, entC_len, entC_all, plC_len, plC_all, tbC_len, tbC_all] <;> omega) | rfl | decide) only [gen0, gen1, gen2, rulesM, rulesT, rulesP, litR, bolR, Nat.reduceAdd, Nat.reduceLeDiff, numR, memR, valR, heapR, updR, intR, decR, extR, slR, segR, thenR, pnR, Int.reduceToNat, Int.reduceAdd, Int.reduceSub, Int.reduceLT, Int.reduceLE, Nat.reduceSub, Nat.reduceMul, Nat.reduceEqDiff, joinBR, c1, c2, c3, c4, h.fine, h.cnt, h.bef, h.lst, e1, e2, e5, hlk, entC_sub, eqlE, eqE_me]
    exact hfin _ rfl
  · have hlt := last_lt hpw hd
    have hpos : 0 < d.length := List.length_pos_iff.2 hd
    have e5 : decide (((d.length : Nat) : Int) = 0) = false := decide_eq_false (by omega)
    have e6 : decide (((lastOf d : Nat) : Int) < ((va : Nat) : Int)) = true := decide_eq_true (by omega)
    simp (disch := first | assumption | omega | (simp only [szR, tgC_len, tgC_all, entC_len, entC_all, plC_len, plC_all, tbC_len, tbC_all] <;> omega) | rfl | decide) only [gen0, gen1, gen2, rulesM, rulesT, rulesP, litR, bolR, Nat.reduceAdd, Nat.reduceLeDiff, numR, memR, valR, heapR, updR, intR, decR, extR, slR, segR, thenR, pnR, Int.reduceToNat, Int.reduceAdd, Int.reduceSub, Int.reduceLT, Int.reduceLE, Nat.reduceSub, Nat.reduceMul, Nat.reduceEqDiff, joinBR, c1, c2, c3, c4, h.fine, h.cnt, h.bef, h.lst, e1, e2, e5, e6, hlk, entC_sub, eqlE, eqE_me]
    exact hfin _ rfl
end Go.Proofs.Ytfpcflmgipklcaa
