/- The document's unit: what an address is, and what is kept and laid for it; conditions: those of each theorem. -/
import Derived.Test.YtbigiabcgplkgaaSlow12
namespace Go.Proofs.Ytbigiabcgplkgaa
open Go.Fx
set_option maxRecDepth 100000
set_option linter.unusedSimpArgs false
set_option linter.unusedVariables false
set_option maxHeartbeats 8000000 in
theorem rTranslate_spec {w : World} {base c ro ai va A B : Nat} {vl ve : Value} {R : List Rn} {D : List Dn} {g t : Bool} {L : List Value} {m : Nat → Int} {P : List (Nat × Int)} {xa xb : Value} {k : Int}
    (h : RMem w base L 8 m c P xa xb) (hbase : base ≤ w.heap.size) (hm : Byte m) (hc : c ≤ 10000)
    (hl : RowsAt w vl 3 (R.map rfC)) (hR : R.length ≤ 100) (hRn : ∀ x ∈ R, 0 ≤ x.n) (hRx : ∀ x ∈ R, 0 ≤ x.x ∧ x.x < D.length)
    (he : RowsAt w ve 13 (D.map deC)) (hD : D.length ≤ 100) (hDm : ∀ d ∈ D, d.m < 17592186044416) {T : List Nat} (hT : ∀ k ∈ T, k < w.heap.size) (hxT : P ≠ [] → ∀ b, blockOf xa = some b ∨ blockOf xb = some b → b ∉ T)
    (p1 : A ≤ (R.filter (fun r => !(r.a == (ai : Int) && r.n == ((va / 4096 : Nat) : Int)))).length) (p2 : B ≤ A)
    (p3 : ∀ j (h : j < (R.filter (fun r => !(r.a == (ai : Int) && r.n == ((va / 4096 : Nat) : Int)))).length), (R.filter (fun r => !(r.a == (ai : Int) && r.n == ((va / 4096 : Nat) : Int))))[j].n % 4 ≤ ((va / 4096 : Nat) : Int) % 4 ↔ j < A)
    (p4 : ∀ j (h : j < (R.filter (fun r => !(r.a == (ai : Int) && r.n == ((va / 4096 : Nat) : Int)))).length), (R.filter (fun r => !(r.a == (ai : Int) && r.n == ((va / 4096 : Nat) : Int))))[j].n % 4 = ((va / 4096 : Nat) : Int) % 4 ↔ B ≤ j ∧ j < A)
    (hro : ro < 18446744073709551616) (hai : ai < 18446744073709551616) (hva : va < 18446744073709551616) {K : Value → World → Prop}
    (k0 : ¬ va < 274877906944 → ∀ w', Ext [] w w' → K (.tuple #[.agg (ruC vl ve ro ai g).toArray, .agg L.toArray, .agg (plC 0 false).toArray, .int .i64 1]) w')
    (k1 : ∀ p, va < 274877906944 → hitD R D ai va k t g = some p → ∀ w', Ext [] w w' → K (.tuple #[.agg (ruC vl ve ro ai g).toArray, .agg L.toArray, .agg p.1.toArray, .int .i64 p.2]) w')
    (k2 : va < 274877906944 → hitD R D ai va k t g = none → walkA (fun a => leN m a 8) 8 ro va = none → ∀ vl' w', RowsAt w' vl' 3 ((R.filter (fun r => !(r.a == (ai : Int) && r.n == ((va / 4096 : Nat) : Int)))).map rfC) → (∀ b, blockOf vl' = some b → w.heap.size ≤ b) → Ext [] w w' → K (.tuple #[.agg (ruC vl' ve ro ai g).toArray, .agg L.toArray, .agg (plC 0 false).toArray, .int .i64 1]) w')
    (k3 : ∀ x a, va < 274877906944 → hitD R D ai va k t g = none → walkA (fun a => leN m a 8) 8 ro va = some (x, a) → checkA (fl x) k t g ≠ 0 → ∀ w', Ext [] w w' → K (.tuple #[.agg (ruC vl ve ro ai g).toArray, .agg L.toArray, .agg (plC 0 false).toArray, .int .i64 (checkA (fl x) k t g)]) w')
    (k4 : ∀ x a, va < 274877906944 → hitD R D ai va k t g = none → walkA (fun a => leN m a 8) 8 ro va = some (x, a) → checkA (fl x) k t g = 0 → ∀ vl' ve' L' m' c' P' xa' xb' w', RowsAt w' vl' 3 ((rput (R.filter (fun r => !(r.a == (ai : Int) && r.n == ((va / 4096 : Nat) : Int)))) ⟨ai, (va / 4096 : Nat), D.length⟩ A B).map rfC) → (∀ b, blockOf vl' = some b → w.heap.size ≤ b) →
      RowsAt w' ve' 13 ((D ++ [Dn.mk (markA (fl x) k t) (fr x) a]).map deC) → (∀ b, blockOf ve' = some b → w.heap.size ≤ b) → RMem w' base L' 8 m' c' P' xa' xb' → (P' ≠ [] → ∀ b, blockOf xa' = some b ∨ blockOf xb' = some b → b ∉ T) → c' ≤ c + 8 → (m' = m ∧ eqE (markA (fl x) k t) (fr x) (fl x) (fr x) = true ∨ m' = stored m a 8 (wd (markA (fl x) k t) (fr x) : Nat) ∧ eqE (markA (fl x) k t) (fr x) (fl x) (fr x) = false) → Ext [] w w' →
      K (.tuple #[.agg (ruC vl' ve' ro ai g).toArray, .agg L'.toArray, .agg (plA (markA (fl x) k t) (fr x) va k).toArray, .int .i64 0]) w') :
    callsK Try.prog 32 #[.agg (ruC vl ve ro ai g).toArray, .agg L.toArray, .int .u64 va, .int .i64 k, .bool t] w K := by
  obtain ⟨hlen, hall, hsub⟩ := h.cells
  obtain ⟨al, cl, rfl⟩ := hl.len
  obtain ⟨ae, ce, rfl⟩ := he.len
  rw [List.length_map] at hl he
  simp only [List.length_map] at k0 k1 k2 k3 k4 ⊢
  have hse : ∀ f n, splice [Value.bool false, .bool false, .bool false, .bool false, .bool false, .bool false, .bool false, .bool false, .bool false, .bool false, .bool false, .bool false, .int .u64 0] 0 (entC f n) = entC f n := fun f n => splice_over (by rw [entC_len]; rfl)
  apply F32_ok
  unfold F32
  simp only [ruC] at k0 k1 k2 k3 k4 ⊢
  by_cases hv : ¬ va < 274877906944
  · have hd4 := dropL4 hlen
    have hs4 := spliceL4 hlen
    simp only [plC] at k0
    simp (disch := first | assumption | omega | (simp only [szR, entC_len, entC_all, un_len] <;> omega) | rfl | decide) only [gen0, gen1, gen2, rulesM, rulesU, litR, bolR, Nat.reduceAdd, Nat.reduceLeDiff, numR, memR, valR, heapR, updR, intR, decR, extR, slR, segR, thenR, pnR, Int.reduceToNat, Int.reduceAdd, Int.reduceSub, Int.reduceLT, Int.reduceLE, Nat.reduceSub, Nat.reduceMul, Nat.reduceEqDiff, hsub, hlen, hall, hd4, hs4]
    refine ⟨⟨?_, ?_⟩, ?_⟩
    all_goals exact k0 hv _ (by (repeat first | assumption | exact Ext.refl | apply Ext.alloc | apply Ext.drew | (refine Ext.updN ?_ ?_; (focus first | omega | (simp only [szR] <;> omega))) | (refine Ext.updI ?_ ?_; (focus (simp; done)))))
  have hv : va < 274877906944 := by omega
  have e0 : (va : Int) / 4096 = ((va / 4096 : Nat) : Int) := by omega
  simp (disch := first | assumption | omega | (simp only [szR, entC_len, entC_all, un_len] <;> omega) | rfl | decide) only [gen0, gen1, gen2, rulesM, rulesU, litR, bolR, Nat.reduceAdd, Nat.reduceLeDiff, numR, memR, valR, heapR, updR, intR, decR, extR, slR, segR, thenR, pnR, Int.reduceToNat, Int.reduceAdd, Int.reduceSub, Int.reduceLT, Int.reduceLE, Nat.reduceSub, Nat.reduceMul, Nat.reduceEqDiff, hsub, hlen, hall, e0]
  refine rLook_spec (hl.ext (S := []) (by (repeat first | assumption | exact Ext.refl | apply Ext.alloc | apply Ext.drew | (refine Ext.updN ?_ ?_; (focus first | omega | (simp only [szR] <;> omega))) | (refine Ext.updI ?_ ?_; (focus (simp; done))))) (by simp)) (by omega) fun w1 hx1 => ?_
  have hk1 := kept0 hx1
  have hd4 := dropL4 hlen
  have hs4 := spliceL4 hlen
  have f1 : Fr12 w w1 [.slice al R.length cl, .slice ae D.length ce, .int .u64 ro, .int .u64 ai, .bool g] L := ⟨(by first | with_reducible rfl | assumption | (simp (disch := first | assumption | omega | (simp only [szR, entC_len, entC_all, un_len] <;> omega) | rfl | decide) only [gen0, gen1, gen2, rulesM, rulesU, litR, bolR, Nat.reduceAdd, Nat.reduceLeDiff, numR, memR, valR, heapR, updR, intR, decR, extR, slR, segR, thenR, pnR, Int.reduceToNat, Int.reduceAdd, Int.reduceSub, Int.reduceLT, Int.reduceLE, Nat.reduceSub, Nat.reduceMul, Nat.reduceEqDiff, hk1, hd4, hs4] <;> rfl)), (by first | with_reducible rfl | assumption | (simp (disch := first | assumption | omega | (simp only [szR, entC_len, entC_all, un_len] <;> omega) | rfl | decide) only [gen0, gen1, gen2, rulesM, rulesU, litR, bolR, Nat.reduceAdd, Nat.reduceLeDiff, numR, memR, valR, heapR, updR, intR, decR, extR, slR, segR, thenR, pnR, Int.reduceToNat, Int.reduceAdd, Int.reduceSub, Int.reduceLT, Int.reduceLE, Nat.reduceSub, Nat.reduceMul, Nat.reduceEqDiff, hk1, hd4, hs4] <;> rfl)), (by first | with_reducible rfl | assumption | (simp (disch := first | assumption | omega | (simp only [szR, entC_len, entC_all, un_len] <;> omega) | rfl | decide) only [gen0, gen1, gen2, rulesM, rulesU, litR, bolR, Nat.reduceAdd, Nat.reduceLeDiff, numR, memR, valR, heapR, updR, intR, decR, extR, slR, segR, thenR, pnR, Int.reduceToNat, Int.reduceAdd, Int.reduceSub, Int.reduceLT, Int.reduceLE, Nat.reduceSub, Nat.reduceMul, Nat.reduceEqDiff, hk1] <;> rfl)), (by first | with_reducible rfl | assumption | (simp (disch := first | assumption | omega | (simp only [szR, entC_len, entC_all, un_len] <;> omega) | rfl | decide) only [gen0, gen1, gen2, rulesM, rulesU, litR, bolR, Nat.reduceAdd, Nat.reduceLeDiff, numR, memR, valR, heapR, updR, intR, decR, extR, slR, segR, thenR, pnR, Int.reduceToNat, Int.reduceAdd, Int.reduceSub, Int.reduceLT, Int.reduceLE, Nat.reduceSub, Nat.reduceMul, Nat.reduceEqDiff, hk1] <;> rfl)), (by first | with_reducible rfl | assumption | (simp (disch := first | assumption | omega | (simp only [szR, entC_len, entC_all, un_len] <;> omega) | rfl | decide) only [gen0, gen1, gen2, rulesM, rulesU, litR, bolR, Nat.reduceAdd, Nat.reduceLeDiff, numR, memR, valR, heapR, updR, intR, decR, extR, slR, segR, thenR, pnR, Int.reduceToNat, Int.reduceAdd, Int.reduceSub, Int.reduceLT, Int.reduceLE, Nat.reduceSub, Nat.reduceMul, Nat.reduceEqDiff, hk1] <;> rfl)), Ext.trans (S := []) (by (repeat first | assumption | exact Ext.refl | apply Ext.alloc | apply Ext.drew | (refine Ext.updN ?_ ?_; (focus first | omega | (simp only [szR] <;> omega))) | (refine Ext.updI ?_ ?_; (focus (simp; done))))) hx1 (by simp)⟩
  clear hx1 hk1
  have l0 := lt_of_at f1.c0
  have l1 := lt_of_at f1.c1
  have l2 := lt_of_at f1.c2
  have l3 := lt_of_at f1.c3
  have l4 := lt_of_at f1.c4
  obtain ⟨c0, c1, c2, c3, c4, x1⟩ := id f1
  simp only [rfC]
  simp (disch := first | assumption | omega | (simp only [szR, entC_len, entC_all, un_len] <;> omega) | rfl | decide) only [gen0, gen1, gen2, rulesM, rulesU, litR, bolR, Nat.reduceAdd, Nat.reduceLeDiff, numR, memR, valR, heapR, updR, intR, decR, extR, slR, segR, thenR, pnR, Int.reduceToNat, Int.reduceAdd, Int.reduceSub, Int.reduceLT, Int.reduceLE, Nat.reduceSub, Nat.reduceMul, Nat.reduceEqDiff]
  refine joinL.intro fun J9 hJ9 => ?_
  have hslow : ∀ w', Fr12 w w' [.slice al R.length cl, .slice ae D.length ce, .int .u64 ro, .int .u64 ai, .bool g] L → hitD R D ai va k t g = none → J9 [] w' := by
    intro w' f hh
    apply hJ9
    refine slow12 f h hbase hm hc hl hR hRn ⟨al, cl, rfl⟩ ⟨ae, ce, rfl⟩ he hD hT hxT p1 p2 p3 p4 hro hai hva (fun h1 => k2 hv hh h1) (fun x a h1 => k3 x a hv hh h1) (fun x a h1 => k4 x a hv hh h1)
  cases hf : R.find? (fun l => l.a == (ai : Int) && l.n == ((va / 4096 : Nat) : Int)) with
  | none =>
    have e : rlook R ai ((va / 4096 : Nat) : Int) = (Rn.zero, false) := by unfold rlook; rw [hf]
    rw [e]
    simp only [Rn.zero]
    simp (disch := first | assumption | omega | (simp only [szR, entC_len, entC_all, un_len] <;> omega) | rfl | decide) only [gen0, gen1, gen2, rulesM, rulesU, litR, bolR, Nat.reduceAdd, Nat.reduceLeDiff, numR, memR, valR, heapR, updR, intR, decR, extR, slR, segR, thenR, pnR, Int.reduceToNat, Int.reduceAdd, Int.reduceSub, Int.reduceLT, Int.reduceLE, Nat.reduceSub, Nat.reduceMul, Nat.reduceEqDiff, c0]
    exact hslow _ (f1.to (by (repeat first | assumption | exact Ext.refl | apply Ext.alloc | apply Ext.drew | (refine Ext.updN ?_ ?_; (focus first | omega | (simp only [szR] <;> omega))) | (refine Ext.updI ?_ ?_; (focus (simp; done)))))) (hitD_none hf)
  | some l =>
    have e : rlook R ai ((va / 4096 : Nat) : Int) = (l, true) := by unfold rlook; rw [hf]
    obtain ⟨q1, q2⟩ := hRx l (List.mem_of_find?_eq_some hf)
    obtain ⟨j, hj⟩ : ∃ j : Nat, l.x = j := ⟨l.x.toNat, by omega⟩
    have hjl : j < D.length := by omega
    have hd : D[l.x.toNat]? = some D[j] := by rw [hj, Int.toNat_natCast, List.getElem?_eq_getElem hjl]
    have hit := hitD_some (t := t) (g := g) (k := k) hf hd
    rw [e]
    simp only []
    obtain ⟨bE, oE, lE, EE, fE, hix, hbE, hfE, hltE, bbE, hsE, -⟩ := (he.ext f1.ext (by simp)).ixR Try.underlying87 Try.sizeOf37 (k := j) (r := deC D[j]) (by simp [hjl])
    simp only [deC] at hsE
    rw [← hj] at hix
    have hfr : D[j].m < 17592186044416 := hDm _ (List.getElem_mem hjl)
    generalize D[j] = d at hit hsE hd hfr
    have hs0 := f1.ext.size
    simp (disch := first | assumption | omega | (simp only [szR, entC_len, entC_all, un_len] <;> omega) | rfl | decide) only [gen0, gen1, gen2, rulesM, rulesU, litR, bolR, Nat.reduceAdd, Nat.reduceLeDiff, numR, memR, valR, heapR, updR, intR, decR, extR, slR, segR, thenR, pnR, Int.reduceToNat, Int.reduceAdd, Int.reduceSub, Int.reduceLT, Int.reduceLE, Nat.reduceSub, Nat.reduceMul, Nat.reduceEqDiff, c0, hix, hbE, hsE, hse]
    refine rcheck_spec fun w2 hx2 => ?_
    have hk2 := kept0 hx2
    have f2 := f1.to (Ext.trans (S := []) (by (repeat first | assumption | exact Ext.refl | apply Ext.alloc | apply Ext.drew | (refine Ext.updN ?_ ?_; (focus first | omega | (simp only [szR] <;> omega))) | (refine Ext.updI ?_ ?_; (focus (simp; done))))) hx2 (by simp))
    have d16 : w2.heap[w1.heap.size + 1]? = some (.cells (entC d.f d.m).toArray 37 (0, 0)) := (by first | with_reducible rfl | assumption | (simp (disch := first | assumption | omega | (simp only [szR, entC_len, entC_all, un_len] <;> omega) | rfl | decide) only [gen0, gen1, gen2, rulesM, rulesU, litR, bolR, Nat.reduceAdd, Nat.reduceLeDiff, numR, memR, valR, heapR, updR, intR, decR, extR, slR, segR, thenR, pnR, Int.reduceToNat, Int.reduceAdd, Int.reduceSub, Int.reduceLT, Int.reduceLE, Nat.reduceSub, Nat.reduceMul, Nat.reduceEqDiff, hk2, hse] <;> rfl))
    have m0 := lt_of_at d16
    clear hix hbE hfE hltE bbE hsE hx2 hk2 c0 c1 c2 c3 c4
    obtain ⟨c0, c1, c2, c3, c4, x2⟩ := id f2
    by_cases hcc : checkA d.f k t g = 0
    · rw [if_pos hcc] at hit
      rw [hcc]
      simp (disch := first | assumption | omega | (simp only [szR, entC_len, entC_all, un_len] <;> omega) | rfl | decide) only [gen0, gen1, gen2, rulesM, rulesU, litR, bolR, Nat.reduceAdd, Nat.reduceLeDiff, numR, memR, valR, heapR, updR, intR, decR, extR, slR, segR, thenR, pnR, Int.reduceToNat, Int.reduceAdd, Int.reduceSub, Int.reduceLT, Int.reduceLE, Nat.reduceSub, Nat.reduceMul, Nat.reduceEqDiff]
      refine joinL.intro fun J87 hJ87 => ?_
      have h87 : ∀ w', Fr12 w w' [.slice al R.length cl, .slice ae D.length ce, .int .u64 ro, .int .u64 ai, .bool g] L → w'.heap[w1.heap.size + 1]? = some (.cells (entC d.f d.m).toArray 37 (0, 0)) → J87 [.bool (eqE (markA d.f k t) d.m d.f d.m)] w' := by
        intro w3 f3 d3
        obtain ⟨c0, c1, c2, c3, c4, x3⟩ := id f3
        have m3 := lt_of_at d3
        have l4 := lt_of_at c4
        apply hJ87
        intro _
        cases hq : eqE (markA d.f k t) d.m d.f d.m
        · rw [hq, if_neg (by simp)] at hit
          simp (disch := first | assumption | omega | (simp only [szR, entC_len, entC_all, un_len] <;> omega) | rfl | decide) only [gen0, gen1, gen2, rulesM, rulesU, litR, bolR, Nat.reduceAdd, Nat.reduceLeDiff, numR, memR, valR, heapR, updR, intR, decR, extR, slR, segR, thenR, pnR, Int.reduceToNat, Int.reduceAdd, Int.reduceSub, Int.reduceLT, Int.reduceLE, Nat.reduceSub, Nat.reduceMul, Nat.reduceEqDiff]
          exact hslow _ f3 hit
        · rw [hq, if_pos rfl] at hit
          have r1 := k1 _ hv hit
          clear hJ87 hJ9 hslow k0 k1 k2 k3 k4 p3 p4 hRx hRn hDm
          simp (disch := first | assumption | omega | (simp only [szR, entC_len, entC_all, un_len] <;> omega) | rfl | decide) only [gen0, gen1, gen2, rulesM, rulesU, litR, bolR, Nat.reduceAdd, Nat.reduceLeDiff, numR, memR, valR, heapR, updR, intR, decR, extR, slR, segR, thenR, pnR, Int.reduceToNat, Int.reduceAdd, Int.reduceSub, Int.reduceLT, Int.reduceLE, Nat.reduceSub, Nat.reduceMul, Nat.reduceEqDiff, c0, c1, c2, c3, c4, d3, hsub, hlen, hall, entC_sub]
          clear c0 c1 c2 c3 c4
          repeat' (with_reducible apply And.intro)
          all_goals
            refine rplace_spec hfr hva fun w4 hx4 => ?_
            obtain ⟨c0, c1, c2, c3, c4, x4⟩ := f3.to (Ext.trans (S := []) (by (repeat first | assumption | exact Ext.refl | apply Ext.alloc | apply Ext.drew | (refine Ext.updN ?_ ?_; (focus first | omega | (simp only [szR] <;> omega))) | (refine Ext.updI ?_ ?_; (focus (simp; done))))) hx4 (by simp))
            have l4 := lt_of_at c4
            simp only [plA, plC] at r1 ⊢
            simp (disch := first | assumption | omega | (simp only [szR, entC_len, entC_all, un_len] <;> omega) | rfl | decide) only [gen0, gen1, gen2, rulesM, rulesU, litR, bolR, Nat.reduceAdd, Nat.reduceLeDiff, numR, memR, valR, heapR, updR, intR, decR, extR, slR, segR, thenR, pnR, Int.reduceToNat, Int.reduceAdd, Int.reduceSub, Int.reduceLT, Int.reduceLE, Nat.reduceSub, Nat.reduceMul, Nat.reduceEqDiff, c0, c1, c2, c3, c4, hsub, hlen, hall, hd4, hs4]
            repeat' (with_reducible apply And.intro)
            all_goals exact r1 _ (by (repeat first | assumption | exact Ext.refl | apply Ext.alloc | apply Ext.drew | (refine Ext.updN ?_ ?_; (focus first | omega | (simp only [szR] <;> omega))) | (refine Ext.updI ?_ ?_; (focus (simp; done)))))
      clear hJ87
      simp (disch := first | assumption | omega | (simp only [szR, entC_len, entC_all, un_len] <;> omega) | rfl | decide) only [gen0, gen1, gen2, rulesM, rulesU, litR, bolR, Nat.reduceAdd, Nat.reduceLeDiff, numR, memR, valR, heapR, updR, intR, decR, extR, slR, segR, thenR, pnR, Int.reduceToNat, Int.reduceAdd, Int.reduceSub, Int.reduceLT, Int.reduceLE, Nat.reduceSub, Nat.reduceMul, Nat.reduceEqDiff, d16, entC_sub]
      repeat' (with_reducible apply And.intro)
      all_goals
        refine RMarked_spec fun w3 hx3 => ?_
        have hx23 : Ext [] w2 w3 := Ext.trans (S := []) (by (repeat first | assumption | exact Ext.refl | apply Ext.alloc | apply Ext.drew | (refine Ext.updN ?_ ?_; (focus first | omega | (simp only [szR] <;> omega))) | (refine Ext.updI ?_ ?_; (focus (simp; done))))) hx3 (by simp)
        have d3 := hx23.at d16 (by simp)
        simp (disch := first | assumption | omega | (simp only [szR, entC_len, entC_all, un_len] <;> omega) | rfl | decide) only [gen0, gen1, gen2, rulesM, rulesU, litR, bolR, Nat.reduceAdd, Nat.reduceLeDiff, numR, memR, valR, heapR, updR, intR, decR, extR, slR, segR, thenR, pnR, Int.reduceToNat, Int.reduceAdd, Int.reduceSub, Int.reduceLT, Int.reduceLE, Nat.reduceSub, Nat.reduceMul, Nat.reduceEqDiff, d3, entC_sub, eqlR]
        exact h87 _ (f2.to (by (repeat first | assumption | exact Ext.refl | apply Ext.alloc | apply Ext.drew | (refine Ext.updN ?_ ?_; (focus first | omega | (simp only [szR] <;> omega))) | (refine Ext.updI ?_ ?_; (focus (simp; done)))))) (by first | with_reducible rfl | assumption | (simp (disch := first | assumption | omega | (simp only [szR, entC_len, entC_all, un_len] <;> omega) | rfl | decide) only [gen0, gen1, gen2, rulesM, rulesU, litR, bolR, Nat.reduceAdd, Nat.reduceLeDiff, numR, memR, valR, heapR, updR, intR, decR, extR, slR, segR, thenR, pnR, Int.reduceToNat, Int.reduceAdd, Int.reduceSub, Int.reduceLT, Int.reduceLE, Nat.reduceSub, Nat.reduceMul, Nat.reduceEqDiff, d3] <;> rfl))
    · rw [if_neg hcc] at hit
      have r1 := k1 _ hv hit
      simp only [plC] at r1
      clear hJ9 hslow k0 k1 k2 k3 k4
      simp (disch := first | assumption | omega | (simp only [szR, entC_len, entC_all, un_len] <;> omega) | rfl | decide) only [gen0, gen1, gen2, rulesM, rulesU, litR, bolR, Nat.reduceAdd, Nat.reduceLeDiff, numR, memR, valR, heapR, updR, intR, decR, extR, slR, segR, thenR, pnR, Int.reduceToNat, Int.reduceAdd, Int.reduceSub, Int.reduceLT, Int.reduceLE, Nat.reduceSub, Nat.reduceMul, Nat.reduceEqDiff, c0, c1, c2, c3, c4, hsub, hlen, hall, hd4, hs4]
      refine ⟨⟨?_, ?_⟩, ?_⟩
      all_goals exact r1 _ (by (repeat first | assumption | exact Ext.refl | apply Ext.alloc | apply Ext.drew | (refine Ext.updN ?_ ?_; (focus first | omega | (simp only [szR] <;> omega))) | (refine Ext.updI ?_ ?_; (focus (simp; done)))))
end Go.Proofs.Ytbigiabcgplkgaa
