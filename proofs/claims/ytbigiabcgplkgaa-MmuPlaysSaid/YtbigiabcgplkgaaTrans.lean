/- What an address is, for doing something; conditions: those of each theorem. -/
import Derived.Test.YtbigiabcgplkgaaUnit2
namespace Go.Proofs.Ytbigiabcgplkgaa
open Go.Fx
set_option maxRecDepth 100000
set_option linter.unusedSimpArgs false
set_option linter.unusedVariables false
theorem lnC_len2 (l : Ln) : (lnC l).length = 16 := by simp [lnC]
theorem lnC_one2 (l : Ln) : (lnC l).all (fun v => v.oneCell') = true := by rw [lnC_one]
theorem lnC_put2 (l : Ln) : lnC l ++ List.drop (lnC l).length [Value.int .u64 0, .int .u64 0, .bool false, .bool false, .bool false, .bool false, .bool false, .bool false, .bool false, .bool false, .bool false, .bool false, .bool false, .bool false, .int .u64 0, .int .u64 0] = lnC l := by simp [lnC]
theorem lnC_put3 (l : Ln) : splice [Value.int .u64 0, .int .u64 0, .bool false, .bool false, .bool false, .bool false, .bool false, .bool false, .bool false, .bool false, .bool false, .bool false, .bool false, .bool false, .int .u64 0, .int .u64 0] 0 (lnC l) = lnC l := by simp [lnC, splice]
/-- the lines' frames are such. -/
def Fit (S : Nat → List Ln) : Prop := ∀ i, ∀ l ∈ S i, ∃ n : Nat, l.m = n ∧ n < 17592186044416
theorem look_mem {S : Nat → List Ln} {a n : Int} {l : Ln} (h : look S a n = (l, true)) : l ∈ S (n % 4).toNat := by
  unfold look at h
  split at h
  · rename_i l' hl
    simp only [Prod.mk.injEq, and_true] at h
    subst h
    exact List.mem_of_find?_eq_some hl
  · simp at h
/-- what is told by a line that is kept. -/
def hitA (S : Nat → List Ln) (ai va : Nat) (k : Int) (t g : Bool) : Option Value := match look S ai (va / 4096 : Nat) with
  | (l, true) => if checkA l.f k t g = 0 then (if eqE (markA l.f k t) l.m.toNat l.f l.m.toNat = true then some (.tuple #[.agg (plA l.f l.m.toNat va k).toArray, .int .i64 0]) else none) else some (.tuple #[.agg (plC 0 false).toArray, .int .i64 (checkA l.f k t g)])
  | (_, false) => none
theorem blLn (a p : Nat) (f : Nat → Bool) (n x : Nat) (w : World) : (Instr.build 66 [(0, .int .u64 a), (1, .int .u64 p), (2, .agg (fdC f n x).toArray)].toArray).run Try.prog w = .ok (.agg (lnC ⟨a, p, f, n, x⟩).toArray) w := RU_bl_66_0_1_2 _ _ _ _ _ _ _ _ _ _ _ _ _ _ _ _ w
set_option maxHeartbeats 8000000 in
theorem Translate_spec2 {w : World} {b r q ro ai va : Nat} {S : Nat → List Ln} {g : Bool} {m g0 : Nat → Int} {k : Int} {t : Bool} (hS : At w b S (uT ro ai g)) (h2S : Two S) (hF : Fit S) (h : Mem w r q 8 m g0) (hbr : b ≠ r) (hbq : b ≠ q) (hro : ro < 18446744073709551616) (hva : va < 18446744073709551616) {K : Value → World → Prop}
    (k0 : ¬ va < 274877906944 → ∀ w', Ext [] w w' → K (.tuple #[.agg (plC 0 false).toArray, .int .i64 1]) w')
    (k1 : ∀ v, va < 274877906944 → hitA S ai va k t g = some v → ∀ w', Ext [] w w' → K v w')
    (k2 : va < 274877906944 → hitA S ai va k t g = none → walkA (fun a => leN m a 8) 8 ro va = none → ∀ w', At w' b (put4 S (((va / 4096 : Nat) : Int) % 4).toNat ((S (((va / 4096 : Nat) : Int) % 4).toNat).filter (fun l => !(l.a == (ai : Int) && l.n == ((va / 4096 : Nat) : Int))))) (uT ro ai g) → Ext [b] w w' → K (.tuple #[.agg (plC 0 false).toArray, .int .i64 1]) w')
    (k3 : ∀ x a, va < 274877906944 → hitA S ai va k t g = none → walkA (fun a => leN m a 8) 8 ro va = some (x, a) → checkA (fl x) k t g ≠ 0 → ∀ w', Ext [] w w' → K (.tuple #[.agg (plC 0 false).toArray, .int .i64 (checkA (fl x) k t g)]) w')
    (k4 : ∀ x a, va < 274877906944 → hitA S ai va k t g = none → walkA (fun a => leN m a 8) 8 ro va = some (x, a) → checkA (fl x) k t g = 0 → ∀ w' m' g', At w' b (putS S ⟨ai, (va / 4096 : Nat), markA (fl x) k t, fr x, a⟩) (uT ro ai g) → Mem w' r q 8 m' g' → (m' = m ∧ eqE (markA (fl x) k t) (fr x) (fl x) (fr x) = true ∨ m' = stored m a 8 (wd (markA (fl x) k t) (fr x) : Nat) ∧ eqE (markA (fl x) k t) (fr x) (fl x) (fr x) = false) → Ext [b, q] w w' →
      K (.tuple #[.agg (plA (markA (fl x) k t) (fr x) va k).toArray, .int .i64 0]) w') :
    callsK Try.prog 28 #[.pointer (some ⟨b, 0, none⟩), .pointer (some ⟨r, 0, none⟩), .int .u64 va, .int .i64 k, .bool t] w K := by
  obtain ⟨E, hb⟩ := hS
  have hS : At w b S (uT ro ai g) := ⟨E, hb⟩
  have hlt := lt_of_at hb
  have hql := h.lt
  have hp4 : 0 ≤ ((va / 4096 : Nat) : Int) ∧ ((va / 4096 : Nat) : Int) < 18446744073709551616 := by omega
  have hsf : ∀ f n a, splice [Value.bool false, .bool false, .bool false, .bool false, .bool false, .bool false, .bool false, .bool false, .bool false, .bool false, .bool false, .bool false, .int .u64 0, .int .u64 0] 0 (fdC f n a) = fdC f n a := fun f n a => splice_over (by rw [fdC_len]; rfl)
  have hse : ∀ f n, splice [Value.bool false, .bool false, .bool false, .bool false, .bool false, .bool false, .bool false, .bool false, .bool false, .bool false, .bool false, .bool false, .int .u64 0] 0 (entC f n) = entC f n := fun f n => splice_over (by rw [entC_len]; rfl)
  apply F28_ok
  unfold F28
  simp (disch := first | assumption | omega | (simp only [szR, entC_len, entC_all, fdC_len, fdC_all, un_len, lnC_len2, lnC_one2] <;> omega) | rfl | decide) only [gen0, gen1, gen2, rulesM, rulesU, litR, bolR, Nat.reduceAdd, Nat.reduceLeDiff, numR, memR, valR, heapR, updR, intR, decR, extR, slR, segR, thenR, pnR, Int.reduceToNat, Int.reduceAdd, Int.reduceSub, Int.reduceLT, Int.reduceLE, Nat.reduceSub, Nat.reduceMul, Nat.reduceEqDiff, Option.isNone_some]
  refine joinK.intro ?_
  simp (disch := first | assumption | omega | (simp only [szR, entC_len, entC_all, fdC_len, fdC_all, un_len, lnC_len2, lnC_one2] <;> omega) | rfl | decide) only [gen0, gen1, gen2, rulesM, rulesU, litR, bolR, Nat.reduceAdd, Nat.reduceLeDiff, numR, memR, valR, heapR, updR, intR, decR, extR, slR, segR, thenR, pnR, Int.reduceToNat, Int.reduceAdd, Int.reduceSub, Int.reduceLT, Int.reduceLE, Nat.reduceSub, Nat.reduceMul, Nat.reduceEqDiff]
  refine May_spec ?_
  by_cases hv : ¬ va < 274877906944
  · rw [decide_eq_false hv]
    simp (disch := first | assumption | omega | (simp only [szR, entC_len, entC_all, fdC_len, fdC_all, un_len, lnC_len2, lnC_one2] <;> omega) | rfl | decide) only [gen0, gen1, gen2, rulesM, rulesU, litR, bolR, Nat.reduceAdd, Nat.reduceLeDiff, numR, memR, valR, heapR, updR, intR, decR, extR, slR, segR, thenR, pnR, Int.reduceToNat, Int.reduceAdd, Int.reduceSub, Int.reduceLT, Int.reduceLE, Nat.reduceSub, Nat.reduceMul, Nat.reduceEqDiff]
    exact k0 hv _ (by (repeat first | assumption | exact Ext.refl | apply Ext.alloc | apply Ext.drew | (refine Ext.updN ?_ ?_; (focus first | omega | (simp only [szR] <;> omega))) | (refine Ext.updI ?_ ?_; (focus (simp; done)))))
  have hv : va < 274877906944 := by omega
  rw [decide_eq_true hv]
  simp (disch := first | assumption | omega | (simp only [szR, entC_len, entC_all, fdC_len, fdC_all, un_len, lnC_len2, lnC_one2] <;> omega) | rfl | decide) only [gen0, gen1, gen2, rulesM, rulesU, litR, bolR, Nat.reduceAdd, Nat.reduceLeDiff, numR, memR, valR, heapR, updR, intR, decR, extR, slR, segR, thenR, pnR, Int.reduceToNat, Int.reduceAdd, Int.reduceSub, Int.reduceLT, Int.reduceLE, Nat.reduceSub, Nat.reduceMul, Nat.reduceEqDiff]
  refine joinL.intro fun J2 hJ2 => ?_
  have hslow : ∀ w', Ext [] w w' → w'.heap[w.heap.size]? = some (.cells [.int .u64 0, .bool false].toArray 76 (0, 0)) → hitA S ai va k t g = none → J2 [] w' := by
    intro w' hx d10 hh
    apply hJ2
    intro _
    simp (disch := first | assumption | omega | (simp only [szR, entC_len, entC_all, fdC_len, fdC_all, un_len, lnC_len2, lnC_one2] <;> omega) | rfl | decide) only [gen0, gen1, gen2, rulesM, rulesU, litR, bolR, Nat.reduceAdd, Nat.reduceLeDiff, numR, memR, valR, heapR, updR, intR, decR, extR, slR, segR, thenR, pnR, Int.reduceToNat, Int.reduceAdd, Int.reduceSub, Int.reduceLT, Int.reduceLE, Nat.reduceSub, Nat.reduceMul, Nat.reduceEqDiff]
    refine looked_spec (hS.ext hx (by simp)) (h.ext hx (by simp) (by simp)) hro hva fun w1 hx1 => ?_
    have hx1w := hx.trans hx1 (by simp)
    have d10 := hx1.at d10 (by simp)
    have l10 := lt_of_at d10
    have hb1 := hx1w.at hb (by simp)
    have hS1 := hS.ext hx1w (by simp)
    have hm1 := h.ext hx1w (by simp) (by simp)
    have hs1 := hx1w.size
    cases hwa : walkA (fun a => leN m a 8) 8 ro va with
    | none =>
      have hk := k2 hv hh hwa
      simp only [lkR]
      simp (disch := first | assumption | omega | (simp only [szR, entC_len, entC_all, fdC_len, fdC_all, un_len, lnC_len2, lnC_one2] <;> omega) | rfl | decide) only [gen0, gen1, gen2, rulesM, rulesU, litR, bolR, Nat.reduceAdd, Nat.reduceLeDiff, numR, memR, valR, heapR, updR, intR, decR, extR, slR, segR, thenR, pnR, Int.reduceToNat, Int.reduceAdd, Int.reduceSub, Int.reduceLT, Int.reduceLE, Nat.reduceSub, Nat.reduceMul, Nat.reduceEqDiff, hsf]
      refine joinL.intro fun J4 hJ4 => ?_
      have h4 : ∀ w2, At w2 b (put4 S (((va / 4096 : Nat) : Int) % 4).toNat ((S (((va / 4096 : Nat) : Int) % 4).toNat).filter (fun l => !(l.a == (ai : Int) && l.n == ((va / 4096 : Nat) : Int))))) (uT ro ai g) → w2.heap[w.heap.size]? = some (.cells [.int .u64 0, .bool false].toArray 76 (0, 0)) → Ext [b] w w2 → J4 [] w2 := by
        intro w2 e1 e2 e3
        have l2 := lt_of_at e2
        apply hJ4
        intro _
        simp only [plC] at hk
        simp (disch := first | assumption | omega | (simp only [szR, entC_len, entC_all, fdC_len, fdC_all, un_len, lnC_len2, lnC_one2] <;> omega) | rfl | decide) only [gen0, gen1, gen2, rulesM, rulesU, litR, bolR, Nat.reduceAdd, Nat.reduceLeDiff, numR, memR, valR, heapR, updR, intR, decR, extR, slR, segR, thenR, pnR, Int.reduceToNat, Int.reduceAdd, Int.reduceSub, Int.reduceLT, Int.reduceLE, Nat.reduceSub, Nat.reduceMul, Nat.reduceEqDiff, e2]
        exact hk _ (e1.ext (U := [w.heap.size]) (by (repeat first | assumption | exact Ext.refl | apply Ext.alloc | apply Ext.drew | (refine Ext.updN ?_ ?_; (focus first | omega | (simp only [szR] <;> omega))) | (refine Ext.updI ?_ ?_; (focus (simp; done))))) (by simp <;> omega)) (by (repeat first | assumption | exact Ext.refl | apply Ext.alloc | apply Ext.drew | (refine Ext.updN ?_ ?_; (focus first | omega | (simp only [szR] <;> omega))) | (refine Ext.updI ?_ ?_; (focus (simp; done)))))
      clear hJ4
      simp (disch := first | assumption | omega | (simp only [szR, entC_len, entC_all, fdC_len, fdC_all, un_len, lnC_len2, lnC_one2] <;> omega) | rfl | decide) only [gen0, gen1, gen2, rulesM, rulesU, litR, bolR, Nat.reduceAdd, Nat.reduceLeDiff, numR, memR, valR, heapR, updR, intR, decR, extR, slR, segR, thenR, pnR, Int.reduceToNat, Int.reduceAdd, Int.reduceSub, Int.reduceLT, Int.reduceLE, Nat.reduceSub, Nat.reduceMul, Nat.reduceEqDiff, hb1, un_at]
      repeat' (with_reducible apply And.intro)
      all_goals
        refine Number_spec hva ?_
        simp (disch := first | assumption | omega | (simp only [szR, entC_len, entC_all, fdC_len, fdC_all, un_len, lnC_len2, lnC_one2] <;> omega) | rfl | decide) only [gen0, gen1, gen2, rulesM, rulesU, litR, bolR, Nat.reduceAdd, Nat.reduceLeDiff, numR, memR, valR, heapR, updR, intR, decR, extR, slR, segR, thenR, pnR, Int.reduceToNat, Int.reduceAdd, Int.reduceSub, Int.reduceLT, Int.reduceLE, Nat.reduceSub, Nat.reduceMul, Nat.reduceEqDiff, hb1, un_at]
        refine Drop_spec (hS1.ext (U := []) (by (repeat first | assumption | exact Ext.refl | apply Ext.alloc | apply Ext.drew | (refine Ext.updN ?_ ?_; (focus first | omega | (simp only [szR] <;> omega))) | (refine Ext.updI ?_ ?_; (focus (simp; done))))) (by simp)) h2S hp4 fun w2 hS2 hx2 => ?_
        have hx12 : Ext [b] w1 w2 := Ext.trans (by (repeat first | assumption | exact Ext.refl | apply Ext.alloc | apply Ext.drew | (refine Ext.updN ?_ ?_; (focus first | omega | (simp only [szR] <;> omega))) | (refine Ext.updI ?_ ?_; (focus (simp; done))))) hx2 (by simp)
        exact h4 _ hS2 (hx12.at d10 (by simp <;> omega)) ((hx1w.mono (by simp)).trans hx12 (by simp))
    | some p =>
      obtain ⟨x, a⟩ := p
      obtain ⟨hMa, hbad, ha8, halt⟩ := walkA_at hwa
      have hfr := fr_lt x
      simp only [lkR]
      by_cases hc : checkA (fl x) k t g = 0
      · rw [hc]
        have hk := k4 x a hv hh hwa hc
        simp (disch := first | assumption | omega | (simp only [szR, entC_len, entC_all, fdC_len, fdC_all, un_len, lnC_len2, lnC_one2] <;> omega) | rfl | decide) only [gen0, gen1, gen2, rulesM, rulesU, litR, bolR, Nat.reduceAdd, Nat.reduceLeDiff, numR, memR, valR, heapR, updR, intR, decR, extR, slR, segR, thenR, pnR, Int.reduceToNat, Int.reduceAdd, Int.reduceSub, Int.reduceLT, Int.reduceLE, Nat.reduceSub, Nat.reduceMul, Nat.reduceEqDiff, hsf]
        refine joinL.intro fun J4 hJ4 => ?_
        simp (disch := first | assumption | omega | (simp only [szR, entC_len, entC_all, fdC_len, fdC_all, un_len, lnC_len2, lnC_one2] <;> omega) | rfl | decide) only [gen0, gen1, gen2, rulesM, rulesU, litR, bolR, Nat.reduceAdd, Nat.reduceLeDiff, numR, memR, valR, heapR, updR, intR, decR, extR, slR, segR, thenR, pnR, Int.reduceToNat, Int.reduceAdd, Int.reduceSub, Int.reduceLT, Int.reduceLE, Nat.reduceSub, Nat.reduceMul, Nat.reduceEqDiff]
        apply hJ4
        intro _
        simp (disch := first | assumption | omega | (simp only [szR, entC_len, entC_all, fdC_len, fdC_all, un_len, lnC_len2, lnC_one2] <;> omega) | rfl | decide) only [gen0, gen1, gen2, rulesM, rulesU, litR, bolR, Nat.reduceAdd, Nat.reduceLeDiff, numR, memR, valR, heapR, updR, intR, decR, extR, slR, segR, thenR, pnR, Int.reduceToNat, Int.reduceAdd, Int.reduceSub, Int.reduceLT, Int.reduceLE, Nat.reduceSub, Nat.reduceMul, Nat.reduceEqDiff, fdC_sub]
        refine Mark_spec2 (hm1.ext (S := []) (by (repeat first | assumption | exact Ext.refl | apply Ext.alloc | apply Ext.drew | (refine Ext.updN ?_ ?_; (focus first | omega | (simp only [szR] <;> omega))) | (refine Ext.updI ?_ ?_; (focus (simp; done))))) (by simp) (by simp)) (by omega) ha8 (by omega) fun w2 m2 g2 hm2 hcase hx2 => ?_
        have hx12 : Ext [q] w1 w2 := Ext.trans (by (repeat first | assumption | exact Ext.refl | apply Ext.alloc | apply Ext.drew | (refine Ext.updN ?_ ?_; (focus first | omega | (simp only [szR] <;> omega))) | (refine Ext.updI ?_ ?_; (focus (simp; done))))) hx2 (by simp)
        have hs2 := hx12.size
        have hspF : ∀ f n a f' n' a', splice (fdC f n a) 0 (fdC f' n' a') = fdC f' n' a' := fun f n a f' n' a' => splice_over (by rw [fdC_len, fdC_len])
        have hdrF : ∀ f n a f' n' a', fdC f' n' a' ++ List.drop (fdC f' n' a').length (fdC f n a) = fdC f' n' a' := fun f n a f' n' a' => by rw [fdC_len]; simp [fdC]
        have d16 : w2.heap[w1.heap.size]? = some (.cells (fdC (fl x) (fr x) a).toArray 34 (0, 0)) := hx2.at (by first | with_reducible rfl | assumption | (simp (disch := first | assumption | omega | (simp only [szR, entC_len, entC_all, fdC_len, fdC_all, un_len, lnC_len2, lnC_one2] <;> omega) | rfl | decide) only [gen0, gen1, gen2, rulesM, rulesU, litR, bolR, Nat.reduceAdd, Nat.reduceLeDiff, numR, memR, valR, heapR, updR, intR, decR, extR, slR, segR, thenR, pnR, Int.reduceToNat, Int.reduceAdd, Int.reduceSub, Int.reduceLT, Int.reduceLE, Nat.reduceSub, Nat.reduceMul, Nat.reduceEqDiff, hsf] <;> rfl)) (by simp <;> omega)
        have hs2' := hx2.size
        simp only [szR] at hs2'
        have d10 := hx12.at d10 (by simp <;> omega)
        have hb2 := hx12.at hb1 (by simp <;> omega)
        have hS2 := hS1.ext hx12 (by simp <;> omega)
        have hxw2 : Ext [b, q] w w2 := (hx1w.mono (by simp)).trans hx12 (by simp)
        simp (disch := first | assumption | omega | (simp only [szR, entC_len, entC_all, fdC_len, fdC_all, un_len, lnC_len2, lnC_one2] <;> omega) | rfl | decide) only [gen0, gen1, gen2, rulesM, rulesU, litR, bolR, Nat.reduceAdd, Nat.reduceLeDiff, numR, memR, valR, heapR, updR, intR, decR, extR, slR, segR, thenR, pnR, Int.reduceToNat, Int.reduceAdd, Int.reduceSub, Int.reduceLT, Int.reduceLE, Nat.reduceSub, Nat.reduceMul, Nat.reduceEqDiff, d16, hspF, hdrF]
        refine joinL.intro fun J7 hJ7 => ?_
        have h7 : ∀ w3, At w3 b (putS S ⟨ai, (va / 4096 : Nat), markA (fl x) k t, fr x, a⟩) (uT ro ai g) → Mem w3 r q 8 m2 g2 → w3.heap[w.heap.size]? = some (.cells [.int .u64 0, .bool false].toArray 76 (0, 0)) → w3.heap[w1.heap.size]? = some (.cells (fdC (markA (fl x) k t) (fr x) a).toArray 34 (0, 0)) → Ext [b, q] w w3 → J7 [] w3 := by
          intro w3 e1 e2 e3 e4 e5
          apply hJ7
          intro _
          simp (disch := first | assumption | omega | (simp only [szR, entC_len, entC_all, fdC_len, fdC_all, un_len, lnC_len2, lnC_one2] <;> omega) | rfl | decide) only [gen0, gen1, gen2, rulesM, rulesU, litR, bolR, Nat.reduceAdd, Nat.reduceLeDiff, numR, memR, valR, heapR, updR, intR, decR, extR, slR, segR, thenR, pnR, Int.reduceToNat, Int.reduceAdd, Int.reduceSub, Int.reduceLT, Int.reduceLE, Nat.reduceSub, Nat.reduceMul, Nat.reduceEqDiff, e4, fdC_sub13]
          refine mplace_spec hfr hva fun w4 hx4 => ?_
          have f3 := hx4.at e3 (by simp)
          have l3 := lt_of_at f3
          have hx5 : Ext [b, q] w w4 := e5.trans hx4 (by simp)
          have g1 := e1.ext hx4 (by simp)
          have g2' := e2.ext hx4 (by simp) (by simp)
          simp only [plA, plC] at hk ⊢
          simp (disch := first | assumption | omega | (simp only [szR, entC_len, entC_all, fdC_len, fdC_all, un_len, lnC_len2, lnC_one2] <;> omega) | rfl | decide) only [gen0, gen1, gen2, rulesM, rulesU, litR, bolR, Nat.reduceAdd, Nat.reduceLeDiff, numR, memR, valR, heapR, updR, intR, decR, extR, slR, segR, thenR, pnR, Int.reduceToNat, Int.reduceAdd, Int.reduceSub, Int.reduceLT, Int.reduceLE, Nat.reduceSub, Nat.reduceMul, Nat.reduceEqDiff, f3]
          exact hk _ m2 g2 (g1.ext (U := [w.heap.size]) (by (repeat first | assumption | exact Ext.refl | apply Ext.alloc | apply Ext.drew | (refine Ext.updN ?_ ?_; (focus first | omega | (simp only [szR] <;> omega))) | (refine Ext.updI ?_ ?_; (focus (simp; done))))) (by simp <;> omega)) (g2'.ext (S := [w.heap.size]) (by (repeat first | assumption | exact Ext.refl | apply Ext.alloc | apply Ext.drew | (refine Ext.updN ?_ ?_; (focus first | omega | (simp only [szR] <;> omega))) | (refine Ext.updI ?_ ?_; (focus (simp; done))))) (by simp <;> omega) (by simp <;> omega)) hcase (by (repeat first | assumption | exact Ext.refl | apply Ext.alloc | apply Ext.drew | (refine Ext.updN ?_ ?_; (focus first | omega | (simp only [szR] <;> omega))) | (refine Ext.updI ?_ ?_; (focus (simp; done)))))
        clear hJ7 hJ4
        simp (disch := first | assumption | omega | (simp only [szR, entC_len, entC_all, fdC_len, fdC_all, un_len, lnC_len2, lnC_one2] <;> omega) | rfl | decide) only [gen0, gen1, gen2, rulesM, rulesU, litR, bolR, Nat.reduceAdd, Nat.reduceLeDiff, numR, memR, valR, heapR, updR, intR, decR, extR, slR, segR, thenR, pnR, Int.reduceToNat, Int.reduceAdd, Int.reduceSub, Int.reduceLT, Int.reduceLE, Nat.reduceSub, Nat.reduceMul, Nat.reduceEqDiff, hb2, un_at, d16, fdC_sub, hspF, hdrF]
        repeat' (with_reducible apply And.intro)
        all_goals
          refine Number_spec hva ?_
          simp (disch := first | assumption | omega | (simp only [szR, entC_len, entC_all, fdC_len, fdC_all, un_len, lnC_len2, lnC_one2] <;> omega) | rfl | decide) only [gen0, gen1, gen2, rulesM, rulesU, litR, bolR, Nat.reduceAdd, Nat.reduceLeDiff, numR, memR, valR, heapR, updR, intR, decR, extR, slR, segR, thenR, pnR, Int.reduceToNat, Int.reduceAdd, Int.reduceSub, Int.reduceLT, Int.reduceLE, Nat.reduceSub, Nat.reduceMul, Nat.reduceEqDiff, hb2, un_at, d16, fdC_sub, hspF, hdrF, blLn]
          repeat' (with_reducible apply And.intro)
        all_goals
          refine TPut_spec (l := ⟨ai, (va / 4096 : Nat), markA (fl x) k t, fr x, a⟩) (hS2.ext (U := [w1.heap.size]) (by (repeat first | assumption | exact Ext.refl | apply Ext.alloc | apply Ext.drew | (refine Ext.updN ?_ ?_; (focus first | omega | (simp only [szR] <;> omega))) | (refine Ext.updI ?_ ?_; (focus (simp; done))))) (by simp <;> omega)) h2S hp4 fun w3 hS3 hx3 => ?_
          have hx23 : Ext [w1.heap.size, b] w2 w3 := Ext.trans (by (repeat first | assumption | exact Ext.refl | apply Ext.alloc | apply Ext.drew | (refine Ext.updN ?_ ?_; (focus first | omega | (simp only [szR] <;> omega))) | (refine Ext.updI ?_ ?_; (focus (simp; done))))) hx3 (by simp)
          refine h7 _ hS3 (hm2.ext hx23 (by simp <;> omega) (by simp <;> omega)) (hx23.at d10 (by simp <;> omega)) (hx3.at (by first | with_reducible rfl | assumption | (simp (disch := first | assumption | omega | (simp only [szR, entC_len, entC_all, fdC_len, fdC_all, un_len, lnC_len2, lnC_one2] <;> omega) | rfl | decide) only [gen0, gen1, gen2, rulesM, rulesU, litR, bolR, Nat.reduceAdd, Nat.reduceLeDiff, numR, memR, valR, heapR, updR, intR, decR, extR, slR, segR, thenR, pnR, Int.reduceToNat, Int.reduceAdd, Int.reduceSub, Int.reduceLT, Int.reduceLE, Nat.reduceSub, Nat.reduceMul, Nat.reduceEqDiff, d16, hspF, hdrF] <;> rfl)) (by simp <;> omega)) (hxw2.trans hx23 (by simp <;> omega))
      · have hk := k3 x a hv hh hwa hc
        simp (disch := first | assumption | omega | (simp only [szR, entC_len, entC_all, fdC_len, fdC_all, un_len, lnC_len2, lnC_one2] <;> omega) | rfl | decide) only [gen0, gen1, gen2, rulesM, rulesU, litR, bolR, Nat.reduceAdd, Nat.reduceLeDiff, numR, memR, valR, heapR, updR, intR, decR, extR, slR, segR, thenR, pnR, Int.reduceToNat, Int.reduceAdd, Int.reduceSub, Int.reduceLT, Int.reduceLE, Nat.reduceSub, Nat.reduceMul, Nat.reduceEqDiff, hsf]
        refine joinL.intro fun J4 hJ4 => ?_
        simp (disch := first | assumption | omega | (simp only [szR, entC_len, entC_all, fdC_len, fdC_all, un_len, lnC_len2, lnC_one2] <;> omega) | rfl | decide) only [gen0, gen1, gen2, rulesM, rulesU, litR, bolR, Nat.reduceAdd, Nat.reduceLeDiff, numR, memR, valR, heapR, updR, intR, decR, extR, slR, segR, thenR, pnR, Int.reduceToNat, Int.reduceAdd, Int.reduceSub, Int.reduceLT, Int.reduceLE, Nat.reduceSub, Nat.reduceMul, Nat.reduceEqDiff]
        apply hJ4
        intro _
        simp only [plC] at hk
        simp (disch := first | assumption | omega | (simp only [szR, entC_len, entC_all, fdC_len, fdC_all, un_len, lnC_len2, lnC_one2] <;> omega) | rfl | decide) only [gen0, gen1, gen2, rulesM, rulesU, litR, bolR, Nat.reduceAdd, Nat.reduceLeDiff, numR, memR, valR, heapR, updR, intR, decR, extR, slR, segR, thenR, pnR, Int.reduceToNat, Int.reduceAdd, Int.reduceSub, Int.reduceLT, Int.reduceLE, Nat.reduceSub, Nat.reduceMul, Nat.reduceEqDiff, d10]
        exact hk _ (by (repeat first | assumption | exact Ext.refl | apply Ext.alloc | apply Ext.drew | (refine Ext.updN ?_ ?_; (focus first | omega | (simp only [szR] <;> omega))) | (refine Ext.updI ?_ ?_; (focus (simp; done)))))
  clear hJ2
  refine joinL.intro fun J10 hJ10 => ?_
  have h10 : ∀ w' b12, w'.heap[b12]? = some (.cells (lnC (look S ai (va / 4096 : Nat)).1).toArray 66 (0, 0)) → w'.heap[w.heap.size]? = some (.cells [.int .u64 0, .bool false].toArray 76 (0, 0)) → Ext [] w w' → J10 [.pointer (some ⟨b12, 0, none⟩), .bool (look S ai (va / 4096 : Nat)).2] w' := by
    intro w' b12 d12 d10 hx
    have l12 := lt_of_at d12
    have l10 := lt_of_at d10
    have hb1 := hx.at hb (by simp)
    apply hJ10
    intro _
    obtain ⟨l, is, hlk⟩ : ∃ l is, look S ai (va / 4096 : Nat) = (l, is) := ⟨_, _, rfl⟩
    rw [hlk] at d12 ⊢
    cases is with
    | false =>
      simp (disch := first | assumption | omega | (simp only [szR, entC_len, entC_all, fdC_len, fdC_all, un_len, lnC_len2, lnC_one2] <;> omega) | rfl | decide) only [gen0, gen1, gen2, rulesM, rulesU, litR, bolR, Nat.reduceAdd, Nat.reduceLeDiff, numR, memR, valR, heapR, updR, intR, decR, extR, slR, segR, thenR, pnR, Int.reduceToNat, Int.reduceAdd, Int.reduceSub, Int.reduceLT, Int.reduceLE, Nat.reduceSub, Nat.reduceMul, Nat.reduceEqDiff]
      exact hslow _ hx d10 (by unfold hitA; rw [hlk])
    | true =>
      obtain ⟨n, hm, hn⟩ := hF _ l (look_mem hlk)
      have hsub : ∀ o, o = 2 → sub (lnC l) o 13 = entC l.f n := by
        rintro o rfl
        simp [lnC, entC, sub, hm]
      have hmn : l.m.toNat = n := by omega
      simp (disch := first | assumption | omega | (simp only [szR, entC_len, entC_all, fdC_len, fdC_all, un_len, lnC_len2, lnC_one2] <;> omega) | rfl | decide) only [gen0, gen1, gen2, rulesM, rulesU, litR, bolR, Nat.reduceAdd, Nat.reduceLeDiff, numR, memR, valR, heapR, updR, intR, decR, extR, slR, segR, thenR, pnR, Int.reduceToNat, Int.reduceAdd, Int.reduceSub, Int.reduceLT, Int.reduceLE, Nat.reduceSub, Nat.reduceMul, Nat.reduceEqDiff, d12, hsub, hse, hb1, un_at, entC_sub]
      refine check_spec fun w2 hx2 => ?_
      have hk2 := kept0 hx2
      have hs2 := hx2.size
      simp only [szR] at hs2
      have hx2w' : Ext [] w' w2 := Ext.trans (S := []) (by (repeat first | assumption | exact Ext.refl | apply Ext.alloc | apply Ext.drew | (refine Ext.updN ?_ ?_; (focus first | omega | (simp only [szR] <;> omega))) | (refine Ext.updI ?_ ?_; (focus (simp; done))))) hx2 (by simp)
      have hx2w := hx.trans hx2w' (by simp)
      have d10 := hx2w'.at d10 (by simp)
      have d14 : w2.heap[w'.heap.size]? = some (.cells (entC l.f n).toArray 32 (0, 0)) := (by first | with_reducible rfl | assumption | (simp (disch := first | assumption | omega | (simp only [szR, entC_len, entC_all, fdC_len, fdC_all, un_len, lnC_len2, lnC_one2] <;> omega) | rfl | decide) only [gen0, gen1, gen2, rulesM, rulesU, litR, bolR, Nat.reduceAdd, Nat.reduceLeDiff, numR, memR, valR, heapR, updR, intR, decR, extR, slR, segR, thenR, pnR, Int.reduceToNat, Int.reduceAdd, Int.reduceSub, Int.reduceLT, Int.reduceLE, Nat.reduceSub, Nat.reduceMul, Nat.reduceEqDiff, hk2, hse] <;> rfl))
      by_cases hc : checkA l.f k t g = 0
      · rw [hc]
        simp (disch := first | assumption | omega | (simp only [szR, entC_len, entC_all, fdC_len, fdC_all, un_len, lnC_len2, lnC_one2] <;> omega) | rfl | decide) only [gen0, gen1, gen2, rulesM, rulesU, litR, bolR, Nat.reduceAdd, Nat.reduceLeDiff, numR, memR, valR, heapR, updR, intR, decR, extR, slR, segR, thenR, pnR, Int.reduceToNat, Int.reduceAdd, Int.reduceSub, Int.reduceLT, Int.reduceLE, Nat.reduceSub, Nat.reduceMul, Nat.reduceEqDiff]
        refine joinL.intro fun J13 hJ13 => ?_
        have h13 : ∀ w3, Ext [] w2 w3 → J13 [.bool (eqE (markA l.f k t) n l.f n)] w3 := by
          intro w3 hx3
          have d10 := hx3.at d10 (by simp)
          have d14 := hx3.at d14 (by simp)
          have hx3w := hx2w.trans hx3 (by simp)
          apply hJ13
          intro _
          cases he : eqE (markA l.f k t) n l.f n
          · simp (disch := first | assumption | omega | (simp only [szR, entC_len, entC_all, fdC_len, fdC_all, un_len, lnC_len2, lnC_one2] <;> omega) | rfl | decide) only [gen0, gen1, gen2, rulesM, rulesU, litR, bolR, Nat.reduceAdd, Nat.reduceLeDiff, numR, memR, valR, heapR, updR, intR, decR, extR, slR, segR, thenR, pnR, Int.reduceToNat, Int.reduceAdd, Int.reduceSub, Int.reduceLT, Int.reduceLE, Nat.reduceSub, Nat.reduceMul, Nat.reduceEqDiff]
            exact hslow _ hx3w d10 (by unfold hitA; rw [hlk]; simp only; rw [if_pos hc, hmn, if_neg (by rw [he]; simp)])
          · simp (disch := first | assumption | omega | (simp only [szR, entC_len, entC_all, fdC_len, fdC_all, un_len, lnC_len2, lnC_one2] <;> omega) | rfl | decide) only [gen0, gen1, gen2, rulesM, rulesU, litR, bolR, Nat.reduceAdd, Nat.reduceLeDiff, numR, memR, valR, heapR, updR, intR, decR, extR, slR, segR, thenR, pnR, Int.reduceToNat, Int.reduceAdd, Int.reduceSub, Int.reduceLT, Int.reduceLE, Nat.reduceSub, Nat.reduceMul, Nat.reduceEqDiff, d14, entC_sub]
            refine mplace_spec hn hva fun w4 hx4 => ?_
            have hx34 : Ext [] w3 w4 := Ext.trans (S := []) (by (repeat first | assumption | exact Ext.refl | apply Ext.alloc | apply Ext.drew | (refine Ext.updN ?_ ?_; (focus first | omega | (simp only [szR] <;> omega))) | (refine Ext.updI ?_ ?_; (focus (simp; done))))) hx4 (by simp)
            have d10 := hx34.at d10 (by simp)
            have l10 := lt_of_at d10
            have hx4w := hx3w.trans hx34 (by simp)
            have hk := k1 _ hv (by unfold hitA; rw [hlk]; simp only; rw [if_pos hc, hmn, if_pos he])
            simp only [plA, plC] at hk ⊢
            simp (disch := first | assumption | omega | (simp only [szR, entC_len, entC_all, fdC_len, fdC_all, un_len, lnC_len2, lnC_one2] <;> omega) | rfl | decide) only [gen0, gen1, gen2, rulesM, rulesU, litR, bolR, Nat.reduceAdd, Nat.reduceLeDiff, numR, memR, valR, heapR, updR, intR, decR, extR, slR, segR, thenR, pnR, Int.reduceToNat, Int.reduceAdd, Int.reduceSub, Int.reduceLT, Int.reduceLE, Nat.reduceSub, Nat.reduceMul, Nat.reduceEqDiff, d10]
            exact hk _ (by (repeat first | assumption | exact Ext.refl | apply Ext.alloc | apply Ext.drew | (refine Ext.updN ?_ ?_; (focus first | omega | (simp only [szR] <;> omega))) | (refine Ext.updI ?_ ?_; (focus (simp; done)))))
        clear hJ13
        simp (disch := first | assumption | omega | (simp only [szR, entC_len, entC_all, fdC_len, fdC_all, un_len, lnC_len2, lnC_one2] <;> omega) | rfl | decide) only [gen0, gen1, gen2, rulesM, rulesU, litR, bolR, Nat.reduceAdd, Nat.reduceLeDiff, numR, memR, valR, heapR, updR, intR, decR, extR, slR, segR, thenR, pnR, Int.reduceToNat, Int.reduceAdd, Int.reduceSub, Int.reduceLT, Int.reduceLE, Nat.reduceSub, Nat.reduceMul, Nat.reduceEqDiff, d14, entC_sub]
        repeat' (with_reducible apply And.intro)
        all_goals
          refine Marked_spec fun w3 hx3 => ?_
          have hx23 : Ext [] w2 w3 := Ext.trans (S := []) (by (repeat first | assumption | exact Ext.refl | apply Ext.alloc | apply Ext.drew | (refine Ext.updN ?_ ?_; (focus first | omega | (simp only [szR] <;> omega))) | (refine Ext.updI ?_ ?_; (focus (simp; done))))) hx3 (by simp)
          have d14 := hx23.at d14 (by simp)
          simp (disch := first | assumption | omega | (simp only [szR, entC_len, entC_all, fdC_len, fdC_all, un_len, lnC_len2, lnC_one2] <;> omega) | rfl | decide) only [gen0, gen1, gen2, rulesM, rulesU, litR, bolR, Nat.reduceAdd, Nat.reduceLeDiff, numR, memR, valR, heapR, updR, intR, decR, extR, slR, segR, thenR, pnR, Int.reduceToNat, Int.reduceAdd, Int.reduceSub, Int.reduceLT, Int.reduceLE, Nat.reduceSub, Nat.reduceMul, Nat.reduceEqDiff, d14, entC_sub, eqlE]
          exact h13 _ (by (repeat first | assumption | exact Ext.refl | apply Ext.alloc | apply Ext.drew | (refine Ext.updN ?_ ?_; (focus first | omega | (simp only [szR] <;> omega))) | (refine Ext.updI ?_ ?_; (focus (simp; done)))))
      · have hk := k1 _ hv (by unfold hitA; rw [hlk]; simp only; rw [if_neg hc])
        simp only [plC] at hk
        simp (disch := first | assumption | omega | (simp only [szR, entC_len, entC_all, fdC_len, fdC_all, un_len, lnC_len2, lnC_one2] <;> omega) | rfl | decide) only [gen0, gen1, gen2, rulesM, rulesU, litR, bolR, Nat.reduceAdd, Nat.reduceLeDiff, numR, memR, valR, heapR, updR, intR, decR, extR, slR, segR, thenR, pnR, Int.reduceToNat, Int.reduceAdd, Int.reduceSub, Int.reduceLT, Int.reduceLE, Nat.reduceSub, Nat.reduceMul, Nat.reduceEqDiff, d10]
        exact hk _ (by (repeat first | assumption | exact Ext.refl | apply Ext.alloc | apply Ext.drew | (refine Ext.updN ?_ ?_; (focus first | omega | (simp only [szR] <;> omega))) | (refine Ext.updI ?_ ?_; (focus (simp; done)))))
  clear hJ10
  simp (disch := first | assumption | omega | (simp only [szR, entC_len, entC_all, fdC_len, fdC_all, un_len, lnC_len2, lnC_one2] <;> omega) | rfl | decide) only [gen0, gen1, gen2, rulesM, rulesU, litR, bolR, Nat.reduceAdd, Nat.reduceLeDiff, numR, memR, valR, heapR, updR, intR, decR, extR, slR, segR, thenR, pnR, Int.reduceToNat, Int.reduceAdd, Int.reduceSub, Int.reduceLT, Int.reduceLE, Nat.reduceSub, Nat.reduceMul, Nat.reduceEqDiff, hb, un_at]
  repeat' (with_reducible apply And.intro)
  all_goals
    refine Number_spec hva ?_
    simp (disch := first | assumption | omega | (simp only [szR, entC_len, entC_all, fdC_len, fdC_all, un_len, lnC_len2, lnC_one2] <;> omega) | rfl | decide) only [gen0, gen1, gen2, rulesM, rulesU, litR, bolR, Nat.reduceAdd, Nat.reduceLeDiff, numR, memR, valR, heapR, updR, intR, decR, extR, slR, segR, thenR, pnR, Int.reduceToNat, Int.reduceAdd, Int.reduceSub, Int.reduceLT, Int.reduceLE, Nat.reduceSub, Nat.reduceMul, Nat.reduceEqDiff, hb, un_at]
    repeat' (with_reducible apply And.intro)
  all_goals
    refine Look_spec (hS.ext (U := []) (by (repeat first | assumption | exact Ext.refl | apply Ext.alloc | apply Ext.drew | (refine Ext.updN ?_ ?_; (focus first | omega | (simp only [szR] <;> omega))) | (refine Ext.updI ?_ ?_; (focus (simp; done))))) (by simp)) h2S hp4 fun w1 hx1 => ?_
    have hk1 := kept0 hx1
    have hs1 := hx1.size
    simp only [szR] at hs1
    have hx1w : Ext [] w w1 := Ext.trans (S := []) (by (repeat first | assumption | exact Ext.refl | apply Ext.alloc | apply Ext.drew | (refine Ext.updN ?_ ?_; (focus first | omega | (simp only [szR] <;> omega))) | (refine Ext.updI ?_ ?_; (focus (simp; done))))) hx1 (by simp)
    simp (disch := first | assumption | omega | (simp only [szR, entC_len, entC_all, fdC_len, fdC_all, un_len, lnC_len2, lnC_one2] <;> omega) | rfl | decide) only [gen0, gen1, gen2, rulesM, rulesU, litR, bolR, Nat.reduceAdd, Nat.reduceLeDiff, numR, memR, valR, heapR, updR, intR, decR, extR, slR, segR, thenR, pnR, Int.reduceToNat, Int.reduceAdd, Int.reduceSub, Int.reduceLT, Int.reduceLE, Nat.reduceSub, Nat.reduceMul, Nat.reduceEqDiff, hk1, lnC_put2, lnC_put3]
    refine h10 _ _ ?_ ?_ (by (repeat first | assumption | exact Ext.refl | apply Ext.alloc | apply Ext.drew | (refine Ext.updN ?_ ?_; (focus first | omega | (simp only [szR] <;> omega))) | (refine Ext.updI ?_ ?_; (focus (simp; done)))))
    · first
        | with_reducible rfl
        | (simp (disch := first | assumption | omega | (simp only [szR, entC_len, entC_all, fdC_len, fdC_all, un_len, lnC_len2, lnC_one2] <;> omega) | rfl | decide) only [gen0, gen1, gen2, rulesM, rulesU, litR, bolR, Nat.reduceAdd, Nat.reduceLeDiff, numR, memR, valR, heapR, updR, intR, decR, extR, slR, segR, thenR, pnR, Int.reduceToNat, Int.reduceAdd, Int.reduceSub, Int.reduceLT, Int.reduceLE, Nat.reduceSub, Nat.reduceMul, Nat.reduceEqDiff, hk1, lnC_put2, lnC_put3]; done)
        | (simp (disch := first | assumption | omega | (simp only [szR, entC_len, entC_all, fdC_len, fdC_all, un_len, lnC_len2, lnC_one2] <;> omega) | rfl | decide) only [gen0, gen1, gen2, rulesM, rulesU, litR, bolR, Nat.reduceAdd, Nat.reduceLeDiff, numR, memR, valR, heapR, updR, intR, decR, extR, slR, segR, thenR, pnR, Int.reduceToNat, Int.reduceAdd, Int.reduceSub, Int.reduceLT, Int.reduceLE, Nat.reduceSub, Nat.reduceMul, Nat.reduceEqDiff, hk1, lnC_put2, lnC_put3]; rfl)
        | trace_state
    · first
        | (simp (disch := first | assumption | omega | (simp only [szR, entC_len, entC_all, fdC_len, fdC_all, un_len, lnC_len2, lnC_one2] <;> omega) | rfl | decide) only [gen0, gen1, gen2, rulesM, rulesU, litR, bolR, Nat.reduceAdd, Nat.reduceLeDiff, numR, memR, valR, heapR, updR, intR, decR, extR, slR, segR, thenR, pnR, Int.reduceToNat, Int.reduceAdd, Int.reduceSub, Int.reduceLT, Int.reduceLE, Nat.reduceSub, Nat.reduceMul, Nat.reduceEqDiff, hk1]; done)
        | (simp (disch := first | assumption | omega | (simp only [szR, entC_len, entC_all, fdC_len, fdC_all, un_len, lnC_len2, lnC_one2] <;> omega) | rfl | decide) only [gen0, gen1, gen2, rulesM, rulesU, litR, bolR, Nat.reduceAdd, Nat.reduceLeDiff, numR, memR, valR, heapR, updR, intR, decR, extR, slR, segR, thenR, pnR, Int.reduceToNat, Int.reduceAdd, Int.reduceSub, Int.reduceLT, Int.reduceLE, Nat.reduceSub, Nat.reduceMul, Nat.reduceEqDiff, hk1]; rfl)
        | trace_state
theorem Translate_spec {w : World} {b r q ro ai va : Nat} {S : Nat → List Ln} {g : Bool} {m g0 : Nat → Int} {k : Int} {t : Bool} (hS : At w b S (uT ro ai g)) (h2S : Two S) (hF : Fit S) (h : Mem w r q 8 m g0) (hbr : b ≠ r) (hbq : b ≠ q) (hro : ro < 18446744073709551616) (hva : va < 18446744073709551616) {K : Value → World → Prop}
    (k0 : ¬ va < 274877906944 → ∀ w', Ext [] w w' → K (.tuple #[.agg (plC 0 false).toArray, .int .i64 1]) w')
    (k1 : ∀ v, va < 274877906944 → hitA S ai va k t g = some v → ∀ w', Ext [] w w' → K v w')
    (k2 : va < 274877906944 → hitA S ai va k t g = none → walkA (fun a => leN m a 8) 8 ro va = none → ∀ w', At w' b (put4 S (((va / 4096 : Nat) : Int) % 4).toNat ((S (((va / 4096 : Nat) : Int) % 4).toNat).filter (fun l => !(l.a == (ai : Int) && l.n == ((va / 4096 : Nat) : Int))))) (uT ro ai g) → Ext [b] w w' → K (.tuple #[.agg (plC 0 false).toArray, .int .i64 1]) w')
    (k3 : ∀ x a, va < 274877906944 → hitA S ai va k t g = none → walkA (fun a => leN m a 8) 8 ro va = some (x, a) → checkA (fl x) k t g ≠ 0 → ∀ w', Ext [] w w' → K (.tuple #[.agg (plC 0 false).toArray, .int .i64 (checkA (fl x) k t g)]) w')
    (k4 : ∀ x a, va < 274877906944 → hitA S ai va k t g = none → walkA (fun a => leN m a 8) 8 ro va = some (x, a) → checkA (fl x) k t g = 0 → ∀ w' m' g', At w' b (putS S ⟨ai, (va / 4096 : Nat), markA (fl x) k t, fr x, a⟩) (uT ro ai g) → Mem w' r q 8 m' g' → (m' = m ∧ eqE (markA (fl x) k t) (fr x) (fl x) (fr x) = true ∨ m' = stored m a 8 (wd (markA (fl x) k t) (fr x) : Nat)) → Ext [b, q] w w' →
      K (.tuple #[.agg (plA (markA (fl x) k t) (fr x) va k).toArray, .int .i64 0]) w') :
    callsK Try.prog 28 #[.pointer (some ⟨b, 0, none⟩), .pointer (some ⟨r, 0, none⟩), .int .u64 va, .int .i64 k, .bool t] w K :=
  Translate_spec2 hS h2S hF h hbr hbq hro hva k0 k1 k2 k3 fun x a h1 h2 h3 h4 w1 m1 g1 x1 x2 x3 x4 => k4 x a h1 h2 h3 h4 w1 m1 g1 x1 x2 (x3.imp id And.left) x4
end Go.Proofs.Ytbigiabcgplkgaa
