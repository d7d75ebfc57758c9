/- Where marks are: the walk; conditions: those of each theorem. -/
import Derived.Test.YtobkjnmdbkieeaaDoorASa
namespace Go.Proofs.YtobkjnmdbkieeaaDoor
open Go.Fx
set_option maxRecDepth 100000
set_option linter.unusedSimpArgs false
set_option linter.unusedVariables false
theorem ln_over (x : Ln) : splice [.int .i64 0, .string ⟨#[]⟩, .bool false] 0 (lnC x) = lnC x := rfl
theorem ln_put (x : Ln) : lnC x ++ List.drop (lnC x).length [.int .i64 0, .string ⟨#[]⟩, .bool false] = lnC x := by simp [lnC]
theorem mk_over (a b : Nat) : splice [.map none, .map none] 0 (mkC a b) = mkC a b := rfl
theorem mk_put (a b : Nat) : mkC a b ++ List.drop (mkC a b).length [.map none, .map none] = mkC a b := by simp [mkC]
theorem count_spec {w : World} {v : Value} {L : List Ln} {st : List UInt8 → List (List UInt8)} (hst : ∀ t, (st t).length ≤ 2) (hg : Gm w) (hv : RowsAt w v 3 (L.map lnC)) (hL : L.length ≤ 20001) (hok : ∀ x ∈ L, x.m = false → StandsOK x.t (st x.t)) {K : Value → World → Prop}
    (hK : ∀ r1 r2 w', MapF w' r1 sV iV64 (countF st L).a → MapF w' r2 sV iV64 (countF st L).t → w.heap.size ≤ r1 → w.heap.size ≤ r2 → r1 ≠ r2 → Ext [] w w' → K (.tuple #[.agg (mkC r1 r2).toArray, .int .i64 ((countF st L).n : Nat)]) w') : callsK Tryd.prog 33 #[v] w K := by
  apply F33_ok
  unfold F33
  have hlv := hv.lenR (ty := 3) Tryd.underlying75
  rw [List.length_map] at hlv
  have hm : ∀ w, (Instr.makeMap 77 none).run Tryd.prog w = .ok (.map (some w.heap.size)) (w.alloc (.map #[] 0)) := fun w => run_mkM _ w
  have z1 := mk_over
  have z2 := mk_put
  simp (disch := first | assumption | omega | (simp only [szR, izC_len, izC_all, lnC_len, lnC_all, mkC_len, mkC_all] <;> omega) | rfl | decide) only [gen0, gen1, gen2, rulesC, rulesX, rulesA, litR, bolR, Nat.reduceAdd, Nat.reduceLeDiff, numR, memR, valR, heapR, updR, intR, decR, extR, slR, segR, thenR, pnR, Int.reduceToNat, Int.reduceAdd, Int.reduceSub, Int.reduceLT, Int.reduceLE, Nat.reduceSub, Nat.reduceMul, Nat.reduceEqDiff, hlv, hm]
  have hxa : Ext [] w ((((w.alloc (.cells [.map none, .map none].toArray 79)).alloc (.map #[] 0)).alloc (.map #[] 0)).alloc (.cells (mkC (w.heap.size + 1) (w.heap.size + 1 + 1)).toArray 79)) := Ext.alloc (Ext.allocM (Ext.allocM (Ext.alloc Ext.refl _ _))) _ _
  have e1 : (w.alloc (.cells [.map none, .map none].toArray 79)).heap.size = w.heap.size + 1 := by simp (disch := first | assumption | omega | (simp only [szR, izC_len, izC_all, lnC_len, lnC_all, mkC_len, mkC_all] <;> omega) | rfl | decide) only [gen0, gen1, gen2, rulesC, rulesX, rulesA, litR, bolR, Nat.reduceAdd, Nat.reduceLeDiff, numR, memR, valR, heapR, updR, intR, decR, extR, slR, segR, thenR, pnR, Int.reduceToNat, Int.reduceAdd, Int.reduceSub, Int.reduceLT, Int.reduceLE, Nat.reduceSub, Nat.reduceMul, Nat.reduceEqDiff]
  have e2 : ((w.alloc (.cells [.map none, .map none].toArray 79)).alloc (.map #[] 0)).heap.size = w.heap.size + 1 + 1 := by simp (disch := first | assumption | omega | (simp only [szR, izC_len, izC_all, lnC_len, lnC_all, mkC_len, mkC_all] <;> omega) | rfl | decide) only [gen0, gen1, gen2, rulesC, rulesX, rulesA, litR, bolR, Nat.reduceAdd, Nat.reduceLeDiff, numR, memR, valR, heapR, updR, intR, decR, extR, slR, segR, thenR, pnR, Int.reduceToNat, Int.reduceAdd, Int.reduceSub, Int.reduceLT, Int.reduceLE, Nat.reduceSub, Nat.reduceMul, Nat.reduceEqDiff]
  have e3 : (((w.alloc (.cells [.map none, .map none].toArray 79)).alloc (.map #[] 0)).alloc (.map #[] 0)).heap.size = w.heap.size + 1 + 1 + 1 := by simp (disch := first | assumption | omega | (simp only [szR, izC_len, izC_all, lnC_len, lnC_all, mkC_len, mkC_all] <;> omega) | rfl | decide) only [gen0, gen1, gen2, rulesC, rulesX, rulesA, litR, bolR, Nat.reduceAdd, Nat.reduceLeDiff, numR, memR, valR, heapR, updR, intR, decR, extR, slR, segR, thenR, pnR, Int.reduceToNat, Int.reduceAdd, Int.reduceSub, Int.reduceLT, Int.reduceLE, Nat.reduceSub, Nat.reduceMul, Nat.reduceEqDiff]
  have M1 : MapF ((w.alloc (.cells [.map none, .map none].toArray 79)).alloc (.map #[] 0)) (w.heap.size + 1) sV iV64 (fun _ => none) := by
    have := MapF.make (w := w.alloc (.cells [.map none, .map none].toArray 79)) (kf := sV) (vf := iV64)
    rwa [e1] at this
  have M2 : MapF (((w.alloc (.cells [.map none, .map none].toArray 79)).alloc (.map #[] 0)).alloc (.map #[] 0)) (w.heap.size + 1 + 1) sV iV64 (fun _ => none) := by
    have := MapF.make (w := (w.alloc (.cells [.map none, .map none].toArray 79)).alloc (.map #[] 0)) (kf := sV) (vf := iV64)
    rwa [e2] at this
  replace M1 := (M1.ext (Ext.allocM (S := []) (es := #[]) (c := 0) Ext.refl) (by simp)).ext (Ext.alloc (S := []) Ext.refl (mkC (w.heap.size + 1) (w.heap.size + 1 + 1)).toArray 79) (by simp)
  replace M2 := M2.ext (Ext.alloc (S := []) Ext.refl (mkC (w.heap.size + 1) (w.heap.size + 1 + 1)).toArray 79) (by simp)
  have G4 : ((((w.alloc (.cells [.map none, .map none].toArray 79)).alloc (.map #[] 0)).alloc (.map #[] 0)).alloc (.cells (mkC (w.heap.size + 1) (w.heap.size + 1 + 1)).toArray 79)).heap[w.heap.size + 1 + 1 + 1]? = some (.cells (mkC (w.heap.size + 1) (w.heap.size + 1 + 1)).toArray 79 (0, 0)) := by
    rw [← e3]
    exact alloc_at rfl
  have G0 : ((((w.alloc (.cells [.map none, .map none].toArray 79)).alloc (.map #[] 0)).alloc (.map #[] 0)).alloc (.cells (mkC (w.heap.size + 1) (w.heap.size + 1 + 1)).toArray 79)).heap[w.heap.size]? = some (.cells [.map none, .map none].toArray 79 (0, 0)) := by
    have h0 : (w.alloc (.cells [.map none, .map none].toArray 79)).heap[w.heap.size]? = some (.cells [.map none, .map none].toArray 79 (0, 0)) := alloc_at rfl
    have hx : Ext [] (w.alloc (.cells [.map none, .map none].toArray 79)) ((((w.alloc (.cells [.map none, .map none].toArray 79)).alloc (.map #[] 0)).alloc (.map #[] 0)).alloc (.cells (mkC (w.heap.size + 1) (w.heap.size + 1 + 1)).toArray 79)) := Ext.alloc (Ext.allocM (Ext.allocM Ext.refl)) _ _
    exact hx.at h0 (by simp)
  have hmk : [.map (some (w.heap.size + 1)), .map (some (w.heap.size + 1 + 1))] = mkC (w.heap.size + 1) (w.heap.size + 1 + 1) := rfl
  rw [hmk]
  clear e1 e2 e3 hm hmk
  generalize ((((w.alloc (.cells [.map none, .map none].toArray 79)).alloc (.map #[] 0)).alloc (.map #[] 0)).alloc (.cells (mkC (w.heap.size + 1) (w.heap.size + 1 + 1)).toArray 79)) = w1 at *
  obtain ⟨s0, hs0⟩ : ∃ s0, s0 = w.heap.size := ⟨_, rfl⟩
  have hs1 : Ext [] w w1 := hxa
  obtain ⟨r1, hr1⟩ : ∃ r1, r1 = s0 + 1 := ⟨_, rfl⟩
  obtain ⟨r2, hr2⟩ : ∃ r2, r2 = s0 + 1 + 1 := ⟨_, rfl⟩
  obtain ⟨b4, hb4⟩ : ∃ b4, b4 = s0 + 1 + 1 + 1 := ⟨_, rfl⟩
  rw [← hs0] at M1 M2 G0 G4 ⊢
  rw [← hb4, ← hr2, ← hr1] at G4
  rw [← hr2] at M2
  rw [← hr1] at M1
  rw [← hb4]
  have lw1 := lt_of_at G4
  have c0 : (mkC r1 r2)[0]? = some (.map (some r1)) := rfl
  have c1 : (mkC r1 r2)[1]? = some (.map (some r2)) := rfl
  have hnz : ∀ L' : List Ln, L'.length ≤ 20001 → (countF st L').n ≤ 40002 := fun L' h => Nat.le_trans (countF_n hst L') (by omega)
  refine loopT.intro (fun ss w' => ∃ (k : Nat), k ≤ L.length ∧ ss = [.int .i64 ((countF st (L.take k)).n : Nat), .int .i64 (k : Nat)] ∧ MapF w' r1 sV iV64 (countF st (L.take k)).a ∧ MapF w' r2 sV iV64 (countF st (L.take k)).t ∧ Ext [r1, r2] w1 w')
    (fun st _ => match st with
      | [_, .int _ z] => L.length - z.toNat
      | _ => 0) ⟨0, Nat.zero_le _, rfl, M1, M2, Ext.refl⟩ ?_
  rintro ss w2 ⟨k, hk, rfl, N1, N2, hx2⟩ _
  have H0 := hx2.at G0 (by simp; omega)
  have H4 := hx2.at G4 (by simp; omega)
  have l0 := lt_of_at H0
  have l4 := lt_of_at H4
  have hg2 : Gm w2 := by
    obtain ⟨g0, m, hm⟩ := hg.ext hs1
    have hk0 := hx2.kept 0 g0 (by simp; omega)
    refine ⟨by have := hx2.size; omega, m, ?_⟩
    rw [← hm]
    unfold World.cell?
    rw [hk0]
  by_cases h4 : k < L.length
  · obtain ⟨x, hx⟩ : ∃ x, L[k]? = some x := ⟨_, List.getElem?_eq_getElem h4⟩
    have hxm := List.mem_of_getElem? hx
    have hnx : countF st (L.take (k + 1)) = stepC st (countF st (L.take k)) x := by
      unfold countF
      rw [List.take_add_one, hx, List.foldl_append]
      rfl
    have hT := countF_t (st := st) (L.take k) x.t
    have hN := hnz (L.take k) (by simp; omega)
    rw [List.length_take] at hT
    generalize countF st (L.take k) = p at *
    have hrow : (L.map lnC)[k]? = some (lnC x) := by rw [List.getElem?_map, hx]; rfl
    have hv2 := (hv.ext hs1 (by simp)).at' hx2 (fun h b hb => by have := hv.blt h b hb; simp; omega)
    obtain ⟨b0, o0, lb, E0, f0, hix, hb0, hfit, hblt, hbk, hsub, hget⟩ := RowsAt.ixR (P := Tryd.prog) (t := 75) Tryd.underlying75 Tryd.sizeOf84 hv2 hrow
    have hs := hsub o0 rfl
    have q1 : (lnC x)[1]? = some (.string ⟨x.t.toArray⟩) := rfl
    have q2 : (lnC x)[2]? = some (.bool x.m) := rfl
    simp (disch := first | assumption | omega | (simp only [szR, izC_len, izC_all, lnC_len, lnC_all, mkC_len, mkC_all] <;> omega) | rfl | decide) only [gen0, gen1, gen2, rulesC, rulesX, rulesA, litR, bolR, Nat.reduceAdd, Nat.reduceLeDiff, numR, memR, valR, heapR, updR, intR, decR, extR, slR, segR, thenR, pnR, Int.reduceToNat, Int.reduceAdd, Int.reduceSub, Int.reduceLT, Int.reduceLE, Nat.reduceSub, Nat.reduceMul, Nat.reduceEqDiff, List.getD_cons_zero, List.getD_cons_succ]
    refine joinL.intro fun J2 hJ2 => ?_
    have hfin : ∀ w3, MapF w3 r1 sV iV64 (stepC st p x).a → MapF w3 r2 sV iV64 (stepC st p x).t → Ext [r1, r2] w2 w3 → J2 [.int .i64 ((stepC st p x).n : Nat)] w3 := by
      intro w3 a1 a2 a3
      rw [← hnx] at a1 a2 ⊢
      apply hJ2
      intro _
      simp (disch := first | assumption | omega | (simp only [szR, izC_len, izC_all, lnC_len, lnC_all, mkC_len, mkC_all] <;> omega) | rfl | decide) only [gen0, gen1, gen2, rulesC, rulesX, rulesA, litR, bolR, Nat.reduceAdd, Nat.reduceLeDiff, numR, memR, valR, heapR, updR, intR, decR, extR, slR, segR, thenR, pnR, Int.reduceToNat, Int.reduceAdd, Int.reduceSub, Int.reduceLT, Int.reduceLE, Nat.reduceSub, Nat.reduceMul, Nat.reduceEqDiff, List.getD_cons_zero, List.getD_cons_succ]
      exact ⟨⟨k + 1, by omega, rfl, a1, a2, hx2.trans a3 (by intro k hk; exact .inl hk)⟩, by first | omega | (simp <;> omega)⟩
    have ha : Ext [] w2 (w2.alloc (.cells (lnC x).toArray 84)) := Ext.alloc Ext.refl _ _
    cases hm : x.m with
    | false =>
      have hS : stepC st p x = ⟨p.a, p.t, p.n + (st x.t).length⟩ := by unfold stepC; rw [hm]; rfl
      rw [hS] at hfin
      have hl2 := hst x.t
      rw [hm] at q2
      simp (disch := first | assumption | omega | (simp only [szR, izC_len, izC_all, lnC_len, lnC_all, mkC_len, mkC_all] <;> omega) | rfl | decide) only [gen0, gen1, gen2, rulesC, rulesX, rulesA, litR, bolR, Nat.reduceAdd, Nat.reduceLeDiff, numR, memR, valR, heapR, updR, intR, decR, extR, slR, segR, thenR, pnR, Int.reduceToNat, Int.reduceAdd, Int.reduceSub, Int.reduceLT, Int.reduceLE, Nat.reduceSub, Nat.reduceMul, Nat.reduceEqDiff, hix, hb0, hs, ln_over, ln_put, q1, q2]
      refine hok x hxm hm _ _ (hg2.ext ha) fun v3 w3 hv3 hx3 _ => ?_
      have hl3 := hv3.lenR (ty := 3) Tryd.underlying38
      rw [List.length_map] at hl3
      simp (disch := first | assumption | omega | (simp only [szR, izC_len, izC_all, lnC_len, lnC_all, mkC_len, mkC_all] <;> omega) | rfl | decide) only [gen0, gen1, gen2, rulesC, rulesX, rulesA, litR, bolR, Nat.reduceAdd, Nat.reduceLeDiff, numR, memR, valR, heapR, updR, intR, decR, extR, slR, segR, thenR, pnR, Int.reduceToNat, Int.reduceAdd, Int.reduceSub, Int.reduceLT, Int.reduceLE, Nat.reduceSub, Nat.reduceMul, Nat.reduceEqDiff, hl3, List.getD_cons_zero]
      exact hfin _ ((N1.ext ha (by simp)).ext hx3 (by simp)) ((N2.ext ha (by simp)).ext hx3 (by simp)) ((ha.trans hx3 (by simp)).mono (by simp))
    | true =>
      have hS : stepC st p x = ⟨fun b => if b = x.t then some p.n else p.a b, fun b => if b = x.t then some ((p.t x.t).getD 0 + 1) else p.t b, p.n⟩ := by unfold stepC; rw [hm]; rfl
      rw [hS] at hfin
      rw [hm] at q2
      simp (disch := first | assumption | omega | (simp only [szR, izC_len, izC_all, lnC_len, lnC_all, mkC_len, mkC_all] <;> omega) | rfl | decide) only [gen0, gen1, gen2, rulesC, rulesX, rulesA, litR, bolR, Nat.reduceAdd, Nat.reduceLeDiff, numR, memR, valR, heapR, updR, intR, decR, extR, slR, segR, thenR, pnR, Int.reduceToNat, Int.reduceAdd, Int.reduceSub, Int.reduceLT, Int.reduceLE, Nat.reduceSub, Nat.reduceMul, Nat.reduceEqDiff, hix, hb0, hs, ln_over, ln_put, q1, q2, H4, c0, c1]
      have ha4 := ha.at H4 (by simp)
      refine run_updM Tryd.underlying77 keyS (N1.ext ha (by simp)) x.t (p.n : Int) fun w3 U1 hx3 => ?_
      have hne : r2 ≠ r1 := by omega
      have U2 := (N2.ext ha (by simp)).ext hx3 (by simpa using hne)
      have h34 := hx3.at ha4 (by simp; omega)
      have l34 := lt_of_at h34
      have hbx : (w2.alloc (.cells (lnC x).toArray 84)).heap[w2.heap.size]? = some (.cells (lnC x).toArray 84 (0, 0)) := alloc_at rfl
      have lr1 := N1.lt
      have hbx3 := hx3.at hbx (by simp; omega)
      have hzi : ∀ w, (zeroValue 3).run Tryd.prog w = .ok (iV64 0) w := fun w => by rw [Tryd.zeroValue3]; rfl
      have hlk : ∀ w, w = w3 → (Instr.lookup 77 (.map (some r2)) (.string ⟨x.t.toArray⟩) false).run Tryd.prog w = .ok (.int .i64 ((p.t x.t).getD 0)) w := fun w hw => by
        subst hw
        have := run_lookM Tryd.underlying77 keyS hzi U2 x.t false
        rw [show (Value.string ⟨x.t.toArray⟩) = sV x.t from rfl, this]
        cases p.t x.t <;> rfl
      have hlk3 := hlk w3 rfl
      have lbx := lt_of_at hbx3
      simp (disch := first | assumption | omega | (simp only [szR, izC_len, izC_all, lnC_len, lnC_all, mkC_len, mkC_all] <;> omega) | rfl | decide) only [gen0, gen1, gen2, rulesC, rulesX, rulesA, litR, bolR, Nat.reduceAdd, Nat.reduceLeDiff, numR, memR, valR, heapR, updR, intR, decR, extR, slR, segR, thenR, pnR, Int.reduceToNat, Int.reduceAdd, Int.reduceSub, Int.reduceLT, Int.reduceLE, Nat.reduceSub, Nat.reduceMul, Nat.reduceEqDiff, h34, c1, hbx3, q1, hlk3]
      refine run_updM Tryd.underlying77 keyS U2 x.t ((p.t x.t).getD 0 + 1) fun w4 V2 hx4 => ?_
      have V1 := U1.ext hx4 (by simpa using Ne.symm hne)
      simp (disch := first | assumption | omega | (simp only [szR, izC_len, izC_all, lnC_len, lnC_all, mkC_len, mkC_all] <;> omega) | rfl | decide) only [gen0, gen1, gen2, rulesC, rulesX, rulesA, litR, bolR, Nat.reduceAdd, Nat.reduceLeDiff, numR, memR, valR, heapR, updR, intR, decR, extR, slR, segR, thenR, pnR, Int.reduceToNat, Int.reduceAdd, Int.reduceSub, Int.reduceLT, Int.reduceLE, Nat.reduceSub, Nat.reduceMul, Nat.reduceEqDiff, List.getD_cons_zero]
      refine hfin w4 V1 V2 ?_
      have y1 : Ext [r1, r2] w2 (w2.alloc (.cells (lnC x).toArray 84)) := ha.mono (T := [r1, r2]) (by simp)
      have y3 := hx3.mono (T := [r1, r2]) (by simp)
      have y4 := hx4.mono (T := [r1, r2]) (by simp)
      exact (y1.trans y3 (fun k hk => .inl hk)).trans y4 (fun k hk => .inl hk)
  · obtain rfl : k = L.length := by omega
    rw [List.take_length] at N1 N2 ⊢
    simp (disch := first | assumption | omega | (simp only [szR, izC_len, izC_all, lnC_len, lnC_all, mkC_len, mkC_all] <;> omega) | rfl | decide) only [gen0, gen1, gen2, rulesC, rulesX, rulesA, litR, bolR, Nat.reduceAdd, Nat.reduceLeDiff, numR, memR, valR, heapR, updR, intR, decR, extR, slR, segR, thenR, pnR, Int.reduceToNat, Int.reduceAdd, Int.reduceSub, Int.reduceLT, Int.reduceLE, Nat.reduceSub, Nat.reduceMul, Nat.reduceEqDiff, List.getD_cons_zero, List.getD_cons_succ, H4, H0, mkC_sub, z1, z2]
    have hxe : Ext [] w (World.upd w2 s0 (mkC r1 r2)) := by
      have := hs1.trans hx2 (by simp; omega)
      exact this.upd _ (.inr (by omega))
    exact hK r1 r2 _ (N1.ext (Ext.updI (S := [s0]) (by simp) Ext.refl) (by simp; omega)) (N2.ext (Ext.updI (S := [s0]) (by simp) Ext.refl) (by simp; omega)) (by omega) (by omega) (by omega) hxe
end Go.Proofs.YtobkjnmdbkieeaaDoor
