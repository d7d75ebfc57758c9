/- What the sets of the cache keep, step by step; conditions: those of each theorem. -/
import Derived.Test.YtlklhempbpphhaaActs
namespace Go.Proofs.Ytlklhempbpphhaa
open Go.Fx
set_option maxRecDepth 100000
set_option linter.unusedSimpArgs false
set_option linter.unusedVariables false
theorem line_spec {w : World} {c : Ac} {K : Value → World → Prop} (hK : ∀ w', Ext [] w w' → K (.agg (lnC ⟨c.a, c.n, c.x⟩).toArray) w') : callsK Try.prog 21 #[.agg (acC c).toArray] w K := by
  apply F21_ok
  unfold F21
  simp only [acC]
  simp (disch := first | assumption | omega | (simp only [szR] <;> omega) | rfl | decide) only [gen0, gen1, gen2, rulesT, litR, bolR, Nat.reduceAdd, Nat.reduceLeDiff, numR, memR, valR, heapR, updR, intR, decR, extR, slR, segR, thenR, pnR, Int.reduceToNat, Int.reduceAdd, Int.reduceSub, Int.reduceLT, Int.reduceLE, Nat.reduceSub, Nat.reduceMul, Nat.reduceEqDiff]
  exact hK _ (by (repeat first | assumption | exact Ext.refl | apply Ext.alloc | apply Ext.drew | (refine Ext.updN ?_ ?_; (focus first | omega | (simp only [szR] <;> omega))) | (refine Ext.updI ?_ ?_; (focus (simp; done)))))
theorem wrapU (n : Int) : IntKind.u64.wrap n = n % 18446744073709551616 := by
  simp [IntKind.wrap, IntKind.signed, IntKind.bits]
/-- each set's lines are of its own pages, each of another one. -/
structure Good (S : Nat → List Ln) : Prop where
  two : Two S
  num : ∀ i, ∀ x ∈ S i, 0 ≤ x.n ∧ (x.n % 4).toNat = i
  top : ∀ i, ∀ x ∈ S i, x.n < 18446744073709551616
  nod : ∀ i, (S i).Pairwise fun x y => ¬ (x.a = y.a ∧ x.n = y.n)
theorem Good.none : Good (fun _ => []) := ⟨fun _ => by simp, by simp, by simp, by simp⟩
theorem Good.put4 {S : Nat → List Ln} (h : Good S) {i : Nat} {s : List Ln} (h2 : s.length ≤ 2) (hn : ∀ x ∈ s, 0 ≤ x.n ∧ (x.n % 4).toNat = i) (ht : ∀ x ∈ s, x.n < 18446744073709551616) (hp : s.Pairwise fun x y => ¬ (x.a = y.a ∧ x.n = y.n)) : Good (put4 S i s) := by
  refine ⟨h.two.put4 h2, fun j => ?_, fun j => ?_, fun j => ?_⟩ <;> unfold Ytlklhempbpphhaa.put4 <;> split
  · rename_i hj; subst hj; exact hn
  · exact h.num j
  · exact ht
  · exact h.top j
  · exact hp
  · exact h.nod j
theorem put2_mem {s : List Ln} {l x : Ln} (h : x ∈ put2 s l) : x ∈ s ∨ x = l := by
  unfold put2 at h
  rcases List.mem_append.1 h with h1 | h1
  · left
    split at h1
    · exact List.mem_of_mem_drop h1
    · exact h1
  · exact .inr (List.mem_singleton.1 h1)
theorem Good.putS {S : Nat → List Ln} (h : Good S) {l : Ln} (hn : 0 ≤ l.n ∧ l.n < 18446744073709551616) : Good (putS S l) := by
  have hm : ∀ x, x ∈ put2 ((S (l.n % 4).toNat).filter (fun r => !(r.a == l.a && r.n == l.n))) l → x ∈ S (l.n % 4).toNat ∨ x = l := fun x hx => (put2_mem hx).imp (fun h => (List.mem_filter.1 h).1) id
  refine h.put4 (put2_le (Nat.le_trans (List.length_filter_le _ _) (h.two _))) (fun x hx => ?_) (fun x hx => ?_) ?_
  · rcases hm x hx with h1 | rfl
    · exact h.num _ x h1
    · exact ⟨hn.1, rfl⟩
  · rcases hm x hx with h1 | rfl
    · exact h.top _ x h1
    · exact hn.2
  · have hf : ((S (l.n % 4).toNat).filter (fun r => !(r.a == l.a && r.n == l.n))).Pairwise fun x y => ¬ (x.a = y.a ∧ x.n = y.n) := (h.nod _).filter _
    unfold put2
    refine List.pairwise_append.2 ⟨?_, by simp, ?_⟩
    · split
      · exact hf.sublist (List.drop_sublist _ _)
      · exact hf
    · intro x hx y hy
      rw [List.mem_singleton.1 hy]
      have h1 : x ∈ (S (l.n % 4).toNat).filter (fun r => !(r.a == l.a && r.n == l.n)) := by
        split at hx
        · exact List.mem_of_mem_drop hx
        · exact hx
      have h2 := (List.mem_filter.1 h1).2
      rintro ⟨h3, h4⟩
      simp [h3, h4] at h2
theorem putS_other {S : Nat → List Ln} {l : Ln} {i : Nat} (h : i ≠ (l.n % 4).toNat) : putS S l i = S i := by
  unfold putS put4
  rw [if_neg h]
theorem upto_num {S : Nat → List Ln} (h : Good S) : ∀ k, ∀ x ∈ upto S k, 0 ≤ x.n ∧ (x.n % 4).toNat < k
  | 0 => by simp [upto]
  | k + 1 => fun x hx => by
    rcases List.mem_append.1 (show x ∈ upto S k ++ S k from hx) with h1 | h1
    · have := upto_num h k x h1; omega
    · have := h.num k x h1; omega
theorem upto_sorted {S : Nat → List Ln} (h : Good S) : ∀ k, (upto S k).Pairwise fun x y => (x.n % 4).toNat ≤ (y.n % 4).toNat
  | 0 => by simp [upto]
  | k + 1 => by
    show (upto S k ++ S k).Pairwise _
    refine List.pairwise_append.2 ⟨upto_sorted h k, ?_, fun x hx y hy => ?_⟩
    · refine List.pairwise_iff_getElem.2 fun i j hi hj _ => ?_
      rw [(h.num k _ (List.getElem_mem hi)).2, (h.num k _ (List.getElem_mem hj)).2]; exact Nat.le_refl _
    · have := upto_num h k x hx
      have := h.num k y hy
      omega
/-- how many lines are of a set. -/
def cnt (j : Nat) (l : List Ln) : Nat := l.countP fun x => (x.n % 4).toNat == j
theorem cnt_set {S : Nat → List Ln} (h : Good S) (j i : Nat) : cnt j (S i) ≤ if i = j then 2 else 0 := by
  unfold cnt
  split
  · exact Nat.le_trans List.countP_le_length (h.two i)
  · rename_i hne
    rw [Nat.le_zero, List.countP_eq_zero]
    intro x hx
    have := (h.num i x hx).2
    simp; omega
theorem cnt_upto {S : Nat → List Ln} (h : Good S) (j : Nat) : ∀ k, cnt j (upto S k) ≤ if j < k then 2 else 0
  | 0 => by simp [cnt, upto]
  | k + 1 => by
    have h1 := cnt_upto h j k
    have h2 := cnt_set h j k
    have h3 : cnt j (upto S (k + 1)) = cnt j (upto S k) + cnt j (S k) := List.countP_append
    rw [h3]
    split at h1 <;> split at h2 <;> split <;> omega
theorem cnt_take {l : List Ln} {j k : Nat} (h : k < l.length) : cnt j (l.take (k + 1)) = cnt j (l.take k) + if (l[k].n % 4).toNat = j then 1 else 0 := by
  unfold cnt
  rw [List.take_succ_eq_append_getElem h, List.countP_append]
  congr 1
  by_cases hj : (l[k].n % 4).toNat = j <;> simp [hj]
def cntC (l : List Ln) : List Value := [.int .i64 (cnt 0 l : Nat), .int .i64 (cnt 1 l : Nat), .int .i64 (cnt 2 l : Nat), .int .i64 (cnt 3 l : Nat)]
theorem sets_spec {w : World} {v : Value} {number : Int} {l : List Ac} (hv : RowsAt w v 5 (l.map acC)) (hl : ∀ c ∈ l, c.Ok) (hn : 0 ≤ number ∧ number < 18446744073709551616) {K : Value → World → Prop}
    (hK : ∀ w', Ext [] w w' → K (.bool true) w') : callsK Try.prog 5 #[v, .int .u64 number] w K := by
  apply F5_ok
  unfold F5
  simp (disch := first | assumption | omega | (simp only [szR] <;> omega) | rfl | decide) only [gen0, gen1, gen2, rulesT, litR, bolR, Nat.reduceAdd, Nat.reduceLeDiff, numR, memR, valR, heapR, updR, intR, decR, extR, slR, segR, thenR, pnR, Int.reduceToNat, Int.reduceAdd, Int.reduceSub, Int.reduceLT, Int.reduceLE, Nat.reduceSub, Nat.reduceMul, Nat.reduceEqDiff, zero58]
  refine Put_spec (S := fun _ => []) (l := ⟨77, number, 0⟩) ⟨58, by simp (disch := first | assumption | omega | (simp only [szR] <;> omega) | rfl | decide) only [gen0, gen1, gen2, rulesT, litR, bolR, Nat.reduceAdd, Nat.reduceLeDiff, numR, memR, valR, heapR, updR, intR, decR, extR, slR, segR, thenR, pnR, Int.reduceToNat, Int.reduceAdd, Int.reduceSub, Int.reduceLT, Int.reduceLE, Nat.reduceSub, Nat.reduceMul, Nat.reduceEqDiff]⟩ Good.none.two hn fun w1 hS1 hx1 => ?_
  have hx : Ext [] w w1 := ((Ext.refl (w := w) (S := [])).alloc _ _).trans hx1 (by simp)
  refine loopT.intro (fun st w' => ∃ (k : Nat) (z : Int) (S : Nat → List Ln), k ≤ l.length ∧ st = [.int .i64 z] ∧ z = k ∧ At w' w.heap.size S ∧ Good S ∧ S (number % 4).toNat = [⟨77, number, 0⟩] ∧ Ext [] w w')
    (fun st _ => match st with
      | [.int _ z] => l.length - z.toNat
      | _ => 0) ⟨0, 0, _, Nat.zero_le _, rfl, rfl, hS1, Good.none.putS hn, ?_, hx⟩ ?_
  · simp [putS, put4, put2]
  rintro st w' ⟨k, z, S, hk, rfl, rfl, hS, hg, hset, hx'⟩ _
  have hv' := hv.ext hx' (by simp)
  have hend : K (.bool true) w' := hK w' hx'
  by_cases hlt : k < l.length
  · obtain ⟨b, o, cap, L, E, f, rfl, hb, hfit, hsub, -⟩ := hv'.row (k := k) (r := acC l[k]) (by simp [hlt])
    have hlen : (l.map acC).length = l.length := List.length_map ..
    by_cases h60 : k < 60
    · have hbl := lt_of_at hb
      have hok := hl l[k] (List.getElem_mem hlt)
      generalize l[k] = c at hsub hok
      have hmod : number.tmod 4 = number % 4 := Int.tmod_eq_emod_of_nonneg hn.1
      have hcm : c.n.tmod 4 = c.n % 4 := Int.tmod_eq_emod_of_nonneg hok.n.1
      have hbt := lt_of_at hS.choose_spec
      simp only [acC] at hsub
      simp (disch := first | assumption | omega | (simp only [szR] <;> omega) | rfl | decide) only [gen0, gen1, gen2, rulesT, litR, bolR, Nat.reduceAdd, Nat.reduceLeDiff, numR, memR, valR, heapR, updR, intR, decR, extR, slR, segR, thenR, pnR, Int.reduceToNat, Int.reduceAdd, Int.reduceSub, Int.reduceLT, Int.reduceLE, Nat.reduceSub, Nat.reduceMul, Nat.reduceEqDiff, joinBR, hb, hsub, hlen]
      refine joinL.intro fun J3 hJ3 => ?_
      have hrest : ∀ c' w2, w2.heap[w'.heap.size]? = some (.cells (acC c').toArray 61 (0, 0)) → 0 ≤ c'.n ∧ c'.n < 18446744073709551616 → c'.n % 4 ≠ number % 4 → At w2 w.heap.size S → Ext [] w w2 → J3 [] w2 := by
        intro c' w2 h1 h2 h3 h4 h5
        have hmod' : c'.n.tmod 4 = c'.n % 4 := Int.tmod_eq_emod_of_nonneg h2.1
        have hac : (acC c').length = 5 := rfl
        have hac2 : sub (acC c') 0 5 = acC c' := rfl
        have hac3 : (acC c')[3]? = some (.int .u64 c'.n) := rfl
        apply hJ3
        intro _
        refine joinL.intro fun J5 hJ5 => ?_
        simp (disch := first | assumption | omega | (simp only [szR] <;> omega) | rfl | decide) only [gen0, gen1, gen2, rulesT, litR, bolR, Nat.reduceAdd, Nat.reduceLeDiff, numR, memR, valR, heapR, updR, intR, decR, extR, slR, segR, thenR, pnR, Int.reduceToNat, Int.reduceAdd, Int.reduceSub, Int.reduceLT, Int.reduceLE, Nat.reduceSub, Nat.reduceMul, Nat.reduceEqDiff, h1, hac3, hac2, hac]
        apply line_spec
        intro w3 hx3
        refine Put_spec (h4.ext hx3 (by simp)) hg.two h2 fun w4 hS4 hx4 => hJ5 _ _ ?_
        have hx5 : Ext [] w w4 := (h5.trans hx3 (by simp)).trans hx4 (by simp)
        have hg4 := hg.putS (l := ⟨c'.a, c'.n, c'.x⟩) h2
        have hset4 : putS S ⟨c'.a, c'.n, c'.x⟩ (number % 4).toNat = [⟨77, number, 0⟩] := by
          rw [putS_other]
          · exact hset
          · show (number % 4).toNat ≠ (c'.n % 4).toNat
            omega
        generalize putS S ⟨c'.a, c'.n, c'.x⟩ = S' at hS4 hg4 hset4
        clear hS hg hset h4 h3 hJ5 hJ3 hx4 hx3 hsub hac3 hmod' h1 hac2 hac h5 h2
        intro _
        have hb4 := lt_of_at hS4.choose_spec
        simp (disch := first | assumption | omega | (simp only [szR] <;> omega) | rfl | decide) only [gen0, gen1, gen2, rulesT, litR, bolR, Nat.reduceAdd, Nat.reduceLeDiff, numR, memR, valR, heapR, updR, intR, decR, extR, slR, segR, thenR, pnR, Int.reduceToNat, Int.reduceAdd, Int.reduceSub, Int.reduceLT, Int.reduceLE, Nat.reduceSub, Nat.reduceMul, Nat.reduceEqDiff]
        refine Lines_spec (hS4.ext (Ext.alloc (S := []) Ext.refl _ _) (by simp)) hg4.two fun v5 w5 hown hx6 => ?_
        have hlnn : ((upto S' 4).map lnC).length = (upto S' 4).length := List.length_map ..
        have hrows : RowsAt w5 v5 16 ((upto S' 4).map lnC) := Own.rows (by rw [hlnn]; exact hown) rfl (by simp [lnC_len])
        have hbk : ∀ q, blockOf v5 = some q → q ∉ [w4.heap.size] := fun q hq => by
          have := hown.block q hq
          simp only [szR] at this
          simp; omega
        have hc5 := hx6.at (b := w4.heap.size) (o := .cells (cntC []).toArray 63) (by simp (disch := first | assumption | omega | (simp only [szR] <;> omega) | rfl | decide) only [gen0, gen1, gen2, rulesT, litR, bolR, Nat.reduceAdd, Nat.reduceLeDiff, numR, memR, valR, heapR, updR, intR, decR, extR, slR, segR, thenR, pnR, Int.reduceToNat, Int.reduceAdd, Int.reduceSub, Int.reduceLT, Int.reduceLE, Nat.reduceSub, Nat.reduceMul, Nat.reduceEqDiff]; rfl) (by simp)
        have hx7 : Ext [] w w5 := (hx5.alloc _ _).trans hx6 (by simp)
        have hS5 : At w5 w.heap.size S' := (hS4.ext (Ext.alloc (S := []) Ext.refl _ _) (by simp)).ext hx6 (by simp)
        have hle := upto_le hg4.two 4
        have hsort := upto_sorted hg4 4
        have hnum := upto_num hg4 4
        have hc := fun j => cnt_upto hg4 j 4
        generalize upto S' 4 = M at hlnn hrows hle hsort hnum hc
        refine loopT.intro (fun st w6 => ∃ (j : Nat) (z : Int), j ≤ M.length ∧ st = [.int .i64 z] ∧ z = j ∧ w6.heap[w4.heap.size]? = some (.cells (cntC (M.take j)).toArray 63 (0, 0)) ∧ Ext [w4.heap.size] w5 w6)
          (fun st _ => match st with
            | [.int _ z] => M.length - z.toNat
            | _ => 0) ⟨0, 0, Nat.zero_le _, rfl, rfl, hc5, Ext.refl⟩ ?_
        rintro st w6 ⟨j, z, hj, rfl, rfl, hc6, hx8⟩ _
        have hrows6 := hrows.at hx8 hbk
        have hcle : ∀ i, cnt i (M.take j) ≤ 8 := fun i => Nat.le_trans List.countP_le_length (by simp; omega)
        have c0 := hcle 0
        have c1 := hcle 1
        have c2 := hcle 2
        have c3 := hcle 3
        have hcl := lt_of_at hc6
        simp only [cntC] at hc6
        by_cases hjl : j < M.length
        · obtain ⟨g, o2, cap2, l2, E2, f2, rfl, hg6, hfit2, -, hget⟩ := hrows6.row (k := j) (r := lnC M[j]) (by simp [hjl])
          have hne : g ≠ w4.heap.size := fun h => hbk g rfl (by simp [h])
          have hget1 : ∀ p, p = o2 + j * 16 + 1 → l2[p]? = some (.int .u64 M[j].n) := fun p hp => by rw [hget p (by omega) (by omega)]; subst hp; simp only [show o2 + j * 16 + 1 - (o2 + j * 16) = 1 by omega]; rfl
          have hn1 := hnum M[j] (List.getElem_mem hjl)
          have hp : j = 0 ∨ (0 < j ∧ ∃ y : Int, 0 ≤ y ∧ y % 4 ≤ M[j].n % 4 ∧ ∀ p, p = o2 + (j - 1) * 16 + 1 → l2[p]? = some (.int .u64 y)) := by
            rcases Nat.eq_zero_or_pos j with h0 | h0
            · exact .inl h0
            · refine .inr ⟨h0, M[j - 1].n, (hnum M[j - 1] (List.getElem_mem _)).1, ?_, fun p hp => ?_⟩
              · have h1 := List.pairwise_iff_getElem.1 hsort (j - 1) j (by omega) hjl (by omega)
                have h2 := (hnum M[j - 1] (List.getElem_mem _)).1
                omega
              · obtain ⟨g', o', cap', l', E', f', he, hg', -, -, hget'⟩ := hrows6.row (k := j - 1) (r := lnC M[j - 1]) (by simp [show j - 1 < M.length by omega])
                cases he
                rw [hg6] at hg'
                simp only [Option.some.injEq, Obj.cells.injEq] at hg'
                obtain rfl : l2 = l' := by simpa using congrArg Array.toList hg'.1
                rw [hget' p (by omega) (by omega)]
                subst hp
                simp only [show o2 + (j - 1) * 16 + 1 - (o2 + (j - 1) * 16) = 1 by omega]
                rfl
          have hr : M[j].n % 4 = 0 ∨ M[j].n % 4 = 1 ∨ M[j].n % 4 = 2 ∨ M[j].n % 4 = 3 := by omega
          have hct : ∀ i, cnt i (M.take (j + 1)) = cnt i (M.take j) + if (M[j].n % 4).toNat = i then 1 else 0 := fun i => cnt_take hjl
          clear hrows6 hrows hown hget hsort hnum hc
          generalize M[j].n = m at hget1 hn1 hp hr hct
          rcases hp with hj0 | ⟨hj0, y, hy0, hy, hget0⟩
          · rcases hr with hr | hr | hr | hr
            all_goals simp (disch := first | assumption | omega | (simp only [szR] <;> omega) | rfl | decide) only [gen0, gen1, gen2, rulesT, litR, bolR, Nat.reduceAdd, Nat.reduceLeDiff, numR, memR, valR, heapR, updR, intR, decR, extR, slR, segR, thenR, pnR, Int.reduceToNat, Int.reduceAdd, Int.reduceSub, Int.reduceLT, Int.reduceLE, Nat.reduceSub, Nat.reduceMul, Nat.reduceEqDiff, joinBR, hg6, hget1, hc6, hr, hlnn]
            all_goals
              refine ⟨⟨j + 1, _, by omega, rfl, by omega, ?_, ?_⟩, ?_⟩
            all_goals first | ((repeat first | assumption | exact Ext.refl | apply Ext.alloc | apply Ext.drew | (refine Ext.updN ?_ ?_; (focus first | omega | (simp only [szR] <;> omega))) | (refine Ext.updI ?_ ?_; (focus (simp; done)))); done) | omega | (simp [cntC, hct, hr]; done)
          · rcases hr with hr | hr | hr | hr
            all_goals simp (disch := first | assumption | omega | (simp only [szR] <;> omega) | rfl | decide) only [gen0, gen1, gen2, rulesT, litR, bolR, Nat.reduceAdd, Nat.reduceLeDiff, numR, memR, valR, heapR, updR, intR, decR, extR, slR, segR, thenR, pnR, Int.reduceToNat, Int.reduceAdd, Int.reduceSub, Int.reduceLT, Int.reduceLE, Nat.reduceSub, Nat.reduceMul, Nat.reduceEqDiff, joinBR, hg6, hget1, hget0, hc6, hr, hlnn]
            all_goals
              refine ⟨⟨j + 1, _, by omega, rfl, by omega, ?_, ?_⟩, ?_⟩
            all_goals first | ((repeat first | assumption | exact Ext.refl | apply Ext.alloc | apply Ext.drew | (refine Ext.updN ?_ ?_; (focus first | omega | (simp only [szR] <;> omega))) | (refine Ext.updI ?_ ?_; (focus (simp; done)))); done) | omega | (simp [cntC, hct, hr]; done)
        · obtain rfl : j = M.length := by omega
          obtain ⟨a5, cap5, rfl, -⟩ := hrows
          rw [List.take_length] at hc6
          have h0 : cnt 0 M ≤ 2 := hc 0
          have h1 : cnt 1 M ≤ 2 := hc 1
          have h2 : cnt 2 M ≤ 2 := hc 2
          have h3 : cnt 3 M ≤ 2 := hc 3
          simp (disch := first | assumption | omega | (simp only [szR] <;> omega) | rfl | decide) only [gen0, gen1, gen2, rulesT, litR, bolR, Nat.reduceAdd, Nat.reduceLeDiff, numR, memR, valR, heapR, updR, intR, decR, extR, slR, segR, thenR, pnR, Int.reduceToNat, Int.reduceAdd, Int.reduceSub, Int.reduceLT, Int.reduceLE, Nat.reduceSub, Nat.reduceMul, Nat.reduceEqDiff, joinBR, hc6, hlnn]
          refine ⟨⟨k + 1, _, S', by omega, rfl, by omega, hS5.ext hx8 (by simp; omega), hg4, hset4, ?_⟩, by simp; omega⟩
          exact hx7.trans hx8 (by simp; omega)
      by_cases hb4 : c.n % 4 = number % 4
      · simp (disch := first | assumption | omega | (simp only [szR] <;> omega) | rfl | decide) only [gen0, gen1, gen2, rulesT, litR, bolR, Nat.reduceAdd, Nat.reduceLeDiff, numR, memR, valR, heapR, updR, intR, decR, extR, slR, segR, thenR, pnR, Int.reduceToNat, Int.reduceAdd, Int.reduceSub, Int.reduceLT, Int.reduceLE, Nat.reduceSub, Nat.reduceMul, Nat.reduceEqDiff, wrapU]
        apply hrest ⟨c.kind, c.place, c.a, (c.n + 1) % 18446744073709551616, c.x⟩
        · simp (disch := first | assumption | omega | (simp only [szR] <;> omega) | rfl | decide) only [gen0, gen1, gen2, rulesT, litR, bolR, Nat.reduceAdd, Nat.reduceLeDiff, numR, memR, valR, heapR, updR, intR, decR, extR, slR, segR, thenR, pnR, Int.reduceToNat, Int.reduceAdd, Int.reduceSub, Int.reduceLT, Int.reduceLE, Nat.reduceSub, Nat.reduceMul, Nat.reduceEqDiff]
          rfl
        · simp only
          omega
        · simp only
          omega
        · exact ⟨_, by simp (disch := first | assumption | omega | (simp only [szR] <;> omega) | rfl | decide) only [gen0, gen1, gen2, rulesT, litR, bolR, Nat.reduceAdd, Nat.reduceLeDiff, numR, memR, valR, heapR, updR, intR, decR, extR, slR, segR, thenR, pnR, Int.reduceToNat, Int.reduceAdd, Int.reduceSub, Int.reduceLT, Int.reduceLE, Nat.reduceSub, Nat.reduceMul, Nat.reduceEqDiff]; exact hS.choose_spec⟩
        · (repeat first | assumption | exact Ext.refl | apply Ext.alloc | apply Ext.drew | (refine Ext.updN ?_ ?_; (focus first | omega | (simp only [szR] <;> omega))) | (refine Ext.updI ?_ ?_; (focus (simp; done))))
      · simp (disch := first | assumption | omega | (simp only [szR] <;> omega) | rfl | decide) only [gen0, gen1, gen2, rulesT, litR, bolR, Nat.reduceAdd, Nat.reduceLeDiff, numR, memR, valR, heapR, updR, intR, decR, extR, slR, segR, thenR, pnR, Int.reduceToNat, Int.reduceAdd, Int.reduceSub, Int.reduceLT, Int.reduceLE, Nat.reduceSub, Nat.reduceMul, Nat.reduceEqDiff]
        apply hrest c
        · simp (disch := first | assumption | omega | (simp only [szR] <;> omega) | rfl | decide) only [gen0, gen1, gen2, rulesT, litR, bolR, Nat.reduceAdd, Nat.reduceLeDiff, numR, memR, valR, heapR, updR, intR, decR, extR, slR, segR, thenR, pnR, Int.reduceToNat, Int.reduceAdd, Int.reduceSub, Int.reduceLT, Int.reduceLE, Nat.reduceSub, Nat.reduceMul, Nat.reduceEqDiff]
          rfl
        · exact hok.n
        · exact hb4
        · exact ⟨_, by simp (disch := first | assumption | omega | (simp only [szR] <;> omega) | rfl | decide) only [gen0, gen1, gen2, rulesT, litR, bolR, Nat.reduceAdd, Nat.reduceLeDiff, numR, memR, valR, heapR, updR, intR, decR, extR, slR, segR, thenR, pnR, Int.reduceToNat, Int.reduceAdd, Int.reduceSub, Int.reduceLT, Int.reduceLE, Nat.reduceSub, Nat.reduceMul, Nat.reduceEqDiff]; exact hS.choose_spec⟩
        · (repeat first | assumption | exact Ext.refl | apply Ext.alloc | apply Ext.drew | (refine Ext.updN ?_ ?_; (focus first | omega | (simp only [szR] <;> omega))) | (refine Ext.updI ?_ ?_; (focus (simp; done))))
    · simp (disch := first | assumption | omega | (simp only [szR] <;> omega) | rfl | decide) only [gen0, gen1, gen2, rulesT, litR, bolR, Nat.reduceAdd, Nat.reduceLeDiff, numR, memR, valR, heapR, updR, intR, decR, extR, slR, segR, thenR, pnR, Int.reduceToNat, Int.reduceAdd, Int.reduceSub, Int.reduceLT, Int.reduceLE, Nat.reduceSub, Nat.reduceMul, Nat.reduceEqDiff, joinBR, hlen]
      refine Look_spec hS hg.two hn fun w2 hx2 => ?_
      have e1 : look S 77 number = (⟨77, number, 0⟩, true) := by simp [look, hset]
      rw [e1]
      simp (disch := first | assumption | omega | (simp only [szR] <;> omega) | rfl | decide) only [gen0, gen1, gen2, rulesT, litR, bolR, Nat.reduceAdd, Nat.reduceLeDiff, numR, memR, valR, heapR, updR, intR, decR, extR, slR, segR, thenR, pnR, Int.reduceToNat, Int.reduceAdd, Int.reduceSub, Int.reduceLT, Int.reduceLE, Nat.reduceSub, Nat.reduceMul, Nat.reduceEqDiff, joinBR, lnC]
      refine one_spec fun w3 hx3 => ?_
      simp (disch := first | assumption | omega | (simp only [szR] <;> omega) | rfl | decide) only [gen0, gen1, gen2, rulesT, litR, bolR, Nat.reduceAdd, Nat.reduceLeDiff, numR, memR, valR, heapR, updR, intR, decR, extR, slR, segR, thenR, pnR, Int.reduceToNat, Int.reduceAdd, Int.reduceSub, Int.reduceLT, Int.reduceLE, Nat.reduceSub, Nat.reduceMul, Nat.reduceEqDiff, joinBR]
      exact hK _ (((hx'.trans hx2 (by simp)).alloc _ _).trans hx3 (by simp))
  · obtain ⟨a, cap, rfl, -⟩ := hv'
    have hlen : (l.map acC).length = l.length := List.length_map ..
    simp (disch := first | assumption | omega | (simp only [szR] <;> omega) | rfl | decide) only [gen0, gen1, gen2, rulesT, litR, bolR, Nat.reduceAdd, Nat.reduceLeDiff, numR, memR, valR, heapR, updR, intR, decR, extR, slR, segR, thenR, pnR, Int.reduceToNat, Int.reduceAdd, Int.reduceSub, Int.reduceLT, Int.reduceLE, Nat.reduceSub, Nat.reduceMul, Nat.reduceEqDiff, joinBR, hlen]
    refine Look_spec hS hg.two hn fun w2 hx2 => ?_
    have e1 : look S 77 number = (⟨77, number, 0⟩, true) := by simp [look, hset]
    rw [e1]
    simp (disch := first | assumption | omega | (simp only [szR] <;> omega) | rfl | decide) only [gen0, gen1, gen2, rulesT, litR, bolR, Nat.reduceAdd, Nat.reduceLeDiff, numR, memR, valR, heapR, updR, intR, decR, extR, slR, segR, thenR, pnR, Int.reduceToNat, Int.reduceAdd, Int.reduceSub, Int.reduceLT, Int.reduceLE, Nat.reduceSub, Nat.reduceMul, Nat.reduceEqDiff, joinBR, lnC]
    refine one_spec fun w3 hx3 => ?_
    simp (disch := first | assumption | omega | (simp only [szR] <;> omega) | rfl | decide) only [gen0, gen1, gen2, rulesT, litR, bolR, Nat.reduceAdd, Nat.reduceLeDiff, numR, memR, valR, heapR, updR, intR, decR, extR, slR, segR, thenR, pnR, Int.reduceToNat, Int.reduceAdd, Int.reduceSub, Int.reduceLT, Int.reduceLE, Nat.reduceSub, Nat.reduceMul, Nat.reduceEqDiff, joinBR]
    exact hK _ (((hx'.trans hx2 (by simp)).alloc _ _).trans hx3 (by simp))
end Go.Proofs.Ytlklhempbpphhaa
