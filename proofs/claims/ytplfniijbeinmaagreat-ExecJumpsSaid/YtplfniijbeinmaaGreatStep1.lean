/- A step: what is fetched, decoded, and run; conditions: those of each theorem. -/
import Derived.Test.YtplfniijbeinmaaGreatRun5
namespace Go.Proofs.YtplfniijbeinmaaGreat
open Go.Fx
set_option maxRecDepth 100000
set_option linter.unusedSimpArgs false
set_option linter.unusedVariables false
theorem cx_pca (c : Nat → Cq) : (cxC c)[98]? = some (.int .u64 ((c 32).a : Nat)) := by
  rw [get_sub (o := 96) (n := 3) (j := 2) (by omega), cx_at (k := 32) (by omega)]
  rfl
theorem cx_pcc (c : Nat → Cq) : sub (cxC c) 96 3 = cq (c 32) := cx_at (k := 32) (by omega)
/-- a region in which fields of an instruction that is run are written: what words say of it stands. -/
def Fld (q : Nat) (ps : List (Rn → Prop)) (w w' : World) : Prop := Ext [q] w w' ∧ ∀ p ∈ ps, (∃ r, p r ∧ w.heap[q]? = some (.cells (rnC r).toArray 91 (0, 0))) → ∃ r, p r ∧ w'.heap[q]? = some (.cells (rnC r).toArray 91 (0, 0))
theorem Fld.refl {q : Nat} {ps : List (Rn → Prop)} {w : World} : Fld q ps w w := ⟨Ext.refl, fun _ _ h => h⟩
theorem Fld.of {q : Nat} {ps : List (Rn → Prop)} {w w' : World} (h : Ext [] w w') : Fld q ps w w' := ⟨h.mono (by simp), fun _ _ ⟨r, h1, h2⟩ => ⟨r, h1, h.at h2 (by simp)⟩⟩
theorem relX.fld (q : Nat) (ps : List (Rn → Prop)) {G : (World → World → Prop) → Prop} (h : G (Fld q ps)) : relX G :=
  ⟨Fld q ps, fun _ => Fld.refl, fun _ _ _ h1 h2 => ⟨h1.1.step h2.1, fun p hp hw => h2.2 p hp (h1.2 p hp hw)⟩, fun _ _ h => h.1.size, h⟩
theorem okX.fld {q : Nat} {ps : List (Rn → Prop)} {w : World} {v : Value} : okX (Fld q ps) w (fun u _ => u = v) v w := ⟨Fld.refl, rfl⟩
theorem Fld.set {q : Nat} {ps : List (Rn → Prop)} {w w' : World} (f : Rn → Rn) (hf : ∀ r r', rnC r = rnC r' → rnC (f r) = rnC (f r')) (hx : Ext [q] w w') {r : Rn} (h : w.heap[q]? = some (.cells (rnC r).toArray 91 (0, 0))) (h' : w'.heap[q]? = some (.cells (rnC (f r)).toArray 91 (0, 0))) (hp : ∀ p ∈ ps, ∀ r, p r → p (f r)) : Fld q ps w w' :=
  ⟨hx, fun p hm ⟨r', h1, h2⟩ => ⟨f r', hp p hm r' h1, by
    rw [h] at h2
    simp only [Option.some.injEq, Obj.cells.injEq, List.toArray_inj] at h2
    rw [h', hf r r' (by simpa using h2)]⟩⟩
theorem Fld.has {q : Nat} {ps : List (Rn → Prop)} {w w' : World} (h : Fld q ps w w') {p : Rn → Prop} (hm : p ∈ ps) {r : Rn} (hr : p r) (hw : w.heap[q]? = some (.cells (rnC r).toArray 91 (0, 0))) : ∃ r, p r ∧ w'.heap[q]? = some (.cells (rnC r).toArray 91 (0, 0)) := h.2 p hm ⟨r, hr, hw⟩
theorem rn_i_inj {i : In} (r r' : Rn) (h : rnC r = rnC r') : rnC { r with i := i } = rnC { r' with i := i } := (rn_seti r i).symm.trans ((congrArg (fun l => splice l 199 (inC i)) h).trans (rn_seti r' i))
theorem rn_a_inj {x : Cq} (r r' : Rn) (h : rnC r = rnC r') : rnC { r with a := x } = rnC { r' with a := x } := (rn_seta r x).symm.trans ((congrArg (fun l => splice l 204 (cq x)) h).trans (rn_seta r' x))
theorem rn_c_inj {x : Nat → Cq} (r r' : Rn) (h : rnC r = rnC r') : rnC { r with c := x } = rnC { r' with c := x } := (rn_setc r x).symm.trans ((congrArg (fun l => splice l 0 (cxC x)) h).trans (rn_setc r' x))
theorem in_put (i : In) : inC i ++ List.drop (inC i).length [.int .i64 0, .int .i64 0, .int .i64 0, .int .i64 0, .int .i64 0] = inC i := by simp [inC]
theorem in_r1 (i : In) : (inC i)[2]? = some (.int .i64 (i.r1 : Nat)) := rfl
theorem in_r2 (i : In) : (inC i)[3]? = some (.int .i64 (i.r2 : Nat)) := rfl
theorem rn_puti (r : Rn) (i : In) : splice (rnC r) 199 (inC i) = rnC { r with i := i } := rn_seti r i
set_option maxHeartbeats 1000000 in
theorem Step_spec {w : World} {rb pb n W k e va : Nat} {c d : Nat → Cq} {i : In} {m g m' : Nat → Int} {Q : (Nat → Int) → Prop} (hM : Mem w rb pb n m g) (hn : 0 < n ∧ n ≤ 1000) (hcm : (c 32).m < 18446744073709551616) (ha : (c 32).a < n * 4096) (hsB : spB (spM (c 32).m (c 32).a) < 18446744073709551616) (hsT : spT (spM (c 32).m (c 32).a) < 18446744073709551616) (hchk : chkN (c 32).t (c 32).m (c 32).a 0 4 = 0) (hal : (c 32).a % 4 = 0) (hW : leN m (c 32).a 4 = W)
    (h1 : i.r1 < 9223372036854775808) (h2 : i.r2 < 9223372036854775808)
    (hD : ∀ (w : World) (K : Value → World → Prop), (∀ w', Ext [] w w' → K (.tuple #[.agg (inC i).toArray, .bool true]) w') → callsK Tryz.prog 31 #[.int .u32 (W : Nat)] w K)
    (hrun : ∀ (q : Nat) (w1 : World) (K : Value → World → Prop), w1.heap[q]? = some (.cells (rnC ⟨nextX c, c, flV rb, flV_one rb, i, regX c i.r1, regX c i.r2⟩).toArray 91 (0, 0)) → Mem w1 rb pb n m g → (∀ g' w2, Q g' → Mem w2 rb pb n m' g' → Ext [q, pb] w1 w2 → K (.tuple #[.agg (cxC d).toArray, .agg (ouC k e va i).toArray]) w2) → callsK Tryz.prog 32 #[.pointer (some ⟨q, 0, none⟩)] w1 K)
    {K : Value → World → Prop} (hK : ∀ g' w', Q g' → Mem w' rb pb n m' g' → Ext [pb] w w' → K (.tuple #[.agg (cxC d).toArray, .agg (ouC k e va i).toArray]) w') :
    callsK Tryz.prog 10 #[.agg (cxC c).toArray, flV rb] w K := by
  apply F10_ok
  unfold F10
  have lM := hM.lt
  simp (disch := first | assumption | omega | (simp only [szR, cq_len, cq_all, cxC_len, cxC_all, inC_len, inC_all, rnC_len, rnC_all, ouC_len, ouC_all, vwC_len, vwC_all] <;> omega) | rfl | decide) only [gen0, gen1, gen2, rulesC, rulesX, rulesM, litR, bolR, Nat.reduceAdd, Nat.reduceLeDiff, numR, memR, valR, heapR, updR, intR, decR, extR, slR, segR, thenR, pnR, Int.reduceToNat, Int.reduceAdd, Int.reduceSub, Int.reduceLT, Int.reduceLE, Nat.reduceSub, Nat.reduceMul, Nat.reduceEqDiff, zeroX_cells, cx_sub, cx_pca]
  refine joinL.intro fun J0 hJ0 => ?_
  simp (disch := first | assumption | omega | (simp only [szR, cq_len, cq_all, cxC_len, cxC_all, inC_len, inC_all, rnC_len, rnC_all, ouC_len, ouC_all, vwC_len, vwC_all] <;> omega) | rfl | decide) only [gen0, gen1, gen2, rulesC, rulesX, rulesM, litR, bolR, Nat.reduceAdd, Nat.reduceLeDiff, numR, memR, valR, heapR, updR, intR, decR, extR, slR, segR, thenR, pnR, Int.reduceToNat, Int.reduceAdd, Int.reduceSub, Int.reduceLT, Int.reduceLE, Nat.reduceSub, Nat.reduceMul, Nat.reduceEqDiff]
  have hx0 : Ext [] w (((w.alloc (.cells (cxC c).toArray 42)).alloc (.cells (cxC zeroX).toArray 42)).alloc (.cells [.int .i64 0, .int .i64 0, .int .u64 0, .int .i64 0, .int .i64 0, .int .i64 0, .int .i64 0, .int .i64 0].toArray 51)).drew := by (repeat first | assumption | exact Ext.refl | apply Ext.alloc | apply Ext.drew | (refine Ext.updN ?_ ?_; (focus first | omega | (simp only [szR] <;> omega))) | (refine Ext.updI ?_ ?_; (focus (simp; done))))
  have g0 : (((w.alloc (.cells (cxC c).toArray 42)).alloc (.cells (cxC zeroX).toArray 42)).alloc (.cells [.int .i64 0, .int .i64 0, .int .u64 0, .int .i64 0, .int .i64 0, .int .i64 0, .int .i64 0, .int .i64 0].toArray 51)).drew.heap[w.heap.size]? = some (.cells (cxC c).toArray 42 (0, 0)) := (by first | with_reducible rfl | assumption | (simp (disch := first | assumption | omega | (simp only [szR, cq_len, cq_all, cxC_len, cxC_all, inC_len, inC_all, rnC_len, rnC_all, ouC_len, ouC_all, vwC_len, vwC_all] <;> omega) | rfl | decide) only [gen0, gen1, gen2, rulesC, rulesX, rulesM, litR, bolR, Nat.reduceAdd, Nat.reduceLeDiff, numR, memR, valR, heapR, updR, intR, decR, extR, slR, segR, thenR, pnR, Int.reduceToNat, Int.reduceAdd, Int.reduceSub, Int.reduceLT, Int.reduceLE, Nat.reduceSub, Nat.reduceMul, Nat.reduceEqDiff] <;> rfl))
  have g1 : (((w.alloc (.cells (cxC c).toArray 42)).alloc (.cells (cxC zeroX).toArray 42)).alloc (.cells [.int .i64 0, .int .i64 0, .int .u64 0, .int .i64 0, .int .i64 0, .int .i64 0, .int .i64 0, .int .i64 0].toArray 51)).drew.heap[w.heap.size + 1]? = some (.cells (cxC zeroX).toArray 42 (0, 0)) := (by first | with_reducible rfl | assumption | (simp (disch := first | assumption | omega | (simp only [szR, cq_len, cq_all, cxC_len, cxC_all, inC_len, inC_all, rnC_len, rnC_all, ouC_len, ouC_all, vwC_len, vwC_all] <;> omega) | rfl | decide) only [gen0, gen1, gen2, rulesC, rulesX, rulesM, litR, bolR, Nat.reduceAdd, Nat.reduceLeDiff, numR, memR, valR, heapR, updR, intR, decR, extR, slR, segR, thenR, pnR, Int.reduceToNat, Int.reduceAdd, Int.reduceSub, Int.reduceLT, Int.reduceLE, Nat.reduceSub, Nat.reduceMul, Nat.reduceEqDiff] <;> rfl))
  have g2 : (((w.alloc (.cells (cxC c).toArray 42)).alloc (.cells (cxC zeroX).toArray 42)).alloc (.cells [.int .i64 0, .int .i64 0, .int .u64 0, .int .i64 0, .int .i64 0, .int .i64 0, .int .i64 0, .int .i64 0].toArray 51)).drew.heap[w.heap.size + 1 + 1]? = some (.cells [.int .i64 0, .int .i64 0, .int .u64 0, .int .i64 0, .int .i64 0, .int .i64 0, .int .i64 0, .int .i64 0].toArray 51 (0, 0)) := (by first | with_reducible rfl | assumption | (simp (disch := first | assumption | omega | (simp only [szR, cq_len, cq_all, cxC_len, cxC_all, inC_len, inC_all, rnC_len, rnC_all, ouC_len, ouC_all, vwC_len, vwC_all] <;> omega) | rfl | decide) only [gen0, gen1, gen2, rulesC, rulesX, rulesM, litR, bolR, Nat.reduceAdd, Nat.reduceLeDiff, numR, memR, valR, heapR, updR, intR, decR, extR, slR, segR, thenR, pnR, Int.reduceToNat, Int.reduceAdd, Int.reduceSub, Int.reduceLT, Int.reduceLE, Nat.reduceSub, Nat.reduceMul, Nat.reduceEqDiff] <;> rfl))
  have hM1 := hM.ext hx0 (by simp) (by simp)
  obtain ⟨b0, hb0⟩ : ∃ b0, b0 = w.heap.size := ⟨_, rfl⟩
  rw [← hb0] at g0 g1 g2 hJ0 ⊢
  generalize (((w.alloc (.cells (cxC c).toArray 42)).alloc (.cells (cxC zeroX).toArray 42)).alloc (.cells [.int .i64 0, .int .i64 0, .int .u64 0, .int .i64 0, .int .i64 0, .int .i64 0, .int .i64 0, .int .i64 0].toArray 51)).drew = w1 at *
  refine relX.ext [] ?_
  (apply postX.is; (focus (intro v w2 hR hd; have e0 := hR.at g0 (by simp); (try simp (disch := first | assumption | omega | (simp only [szR, cq_len, cq_all, cxC_len, cxC_all, inC_len, inC_all, rnC_len, rnC_all, ouC_len, ouC_all, vwC_len, vwC_all] <;> omega) | rfl | decide) only [gen0, gen1, gen2, rulesC, rulesX, rulesM, litR, bolR, Nat.reduceAdd, Nat.reduceLeDiff, numR, memR, valR, heapR, updR, intR, decR, extR, slR, segR, thenR, pnR, Int.reduceToNat, Int.reduceAdd, Int.reduceSub, Int.reduceLT, Int.reduceLE, Nat.reduceSub, Nat.reduceMul, Nat.reduceEqDiff, hd, e0, cx_sub]); exact okX.is)))
  apply postX.is
  · intro v w2 hR hd
    simp (disch := first | assumption | omega | (simp only [szR, cq_len, cq_all, cxC_len, cxC_all, inC_len, inC_all, rnC_len, rnC_all, ouC_len, ouC_all, vwC_len, vwC_all] <;> omega) | rfl | decide) only [gen0, gen1, gen2, rulesC, rulesX, rulesM, litR, bolR, Nat.reduceAdd, Nat.reduceLeDiff, numR, memR, valR, heapR, updR, intR, decR, extR, slR, segR, thenR, pnR, Int.reduceToNat, Int.reduceAdd, Int.reduceSub, Int.reduceLT, Int.reduceLE, Nat.reduceSub, Nat.reduceMul, Nat.reduceEqDiff, hd]
    refine Next_spec hcm (by omega) fun w3 hx3 => okX.mk hx3 rfl
  (apply postX.is; (focus (intro v w2 hR hd; have e0 := hR.at g0 (by simp); (try simp (disch := first | assumption | omega | (simp only [szR, cq_len, cq_all, cxC_len, cxC_all, inC_len, inC_all, rnC_len, rnC_all, ouC_len, ouC_all, vwC_len, vwC_all] <;> omega) | rfl | decide) only [gen0, gen1, gen2, rulesC, rulesX, rulesM, litR, bolR, Nat.reduceAdd, Nat.reduceLeDiff, numR, memR, valR, heapR, updR, intR, decR, extR, slR, segR, thenR, pnR, Int.reduceToNat, Int.reduceAdd, Int.reduceSub, Int.reduceLT, Int.reduceLE, Nat.reduceSub, Nat.reduceMul, Nat.reduceEqDiff, hd, e0, cx_sub]); exact okX.is)))
  (apply postX.is; (focus (intro v w2 hR hd; (try simp (disch := first | assumption | omega | (simp only [szR, cq_len, cq_all, cxC_len, cxC_all, inC_len, inC_all, rnC_len, rnC_all, ouC_len, ouC_all, vwC_len, vwC_all] <;> omega) | rfl | decide) only [gen0, gen1, gen2, rulesC, rulesX, rulesM, litR, bolR, Nat.reduceAdd, Nat.reduceLeDiff, numR, memR, valR, heapR, updR, intR, decR, extR, slR, segR, thenR, pnR, Int.reduceToNat, Int.reduceAdd, Int.reduceSub, Int.reduceLT, Int.reduceLE, Nat.reduceSub, Nat.reduceMul, Nat.reduceEqDiff, hd]); exact okX.is)))
  intro v w2 hR hd _
  have hb : ∀ (w : World), (Instr.build 91 #[(0, .agg (cxC (nextX c)).toArray), (1, .agg (cxC c).toArray), (2, flV rb)]).run Tryz.prog w = .ok (.agg (rnC ⟨nextX c, c, flV rb, flV_one rb, In.zero, Cq.zero, Cq.zero⟩).toArray) w := by
    generalize nextX c = d
    exact fun w => run_build w 91 _ _ (by kernel_rfl)
  have rsub : ∀ r : Rn, sub (rnC r) 0 210 = rnC r := fun r => sub_whole (by rw [rnC_len])
  have k0 := hR.at g0 (by simp)
  have k1 := hR.at g1 (by simp)
  have k2 := hR.at g2 (by simp)
  have kM := hM1.ext hR (by simp) (by simp)
  have hxa := hx0.trans hR (by simp)
  have lk0 := lt_of_at k0
  have lk1 := lt_of_at k1
  have lk2 := lt_of_at k2
  have lkM := kM.lt
  simp (disch := first | assumption | omega | (simp only [szR, cq_len, cq_all, cxC_len, cxC_all, inC_len, inC_all, rnC_len, rnC_all, ouC_len, ouC_all, vwC_len, vwC_all] <;> omega) | rfl | decide) only [gen0, gen1, gen2, rulesC, rulesX, rulesM, litR, bolR, Nat.reduceAdd, Nat.reduceLeDiff, numR, memR, valR, heapR, updR, intR, decR, extR, slR, segR, thenR, pnR, Int.reduceToNat, Int.reduceAdd, Int.reduceSub, Int.reduceLT, Int.reduceLE, Nat.reduceSub, Nat.reduceMul, Nat.reduceEqDiff, hd, hb, rsub]
  have hsw := hx0.size
  clear hR hd hM1 g0 g1 g2 hx0
  apply hJ0
  intro _
  simp (disch := first | assumption | omega | (simp only [szR, cq_len, cq_all, cxC_len, cxC_all, inC_len, inC_all, rnC_len, rnC_all, ouC_len, ouC_all, vwC_len, vwC_all] <;> omega) | rfl | decide) only [gen0, gen1, gen2, rulesC, rulesX, rulesM, litR, bolR, Nat.reduceAdd, Nat.reduceLeDiff, numR, memR, valR, heapR, updR, intR, decR, extR, slR, segR, thenR, pnR, Int.reduceToNat, Int.reduceAdd, Int.reduceSub, Int.reduceLT, Int.reduceLE, Nat.reduceSub, Nat.reduceMul, Nat.reduceEqDiff, k0, cx_pcc]
  refine Check_spec (t := (c 32).t) (m := (c 32).m) (a := (c 32).a) (k := 0) (n := 4) hcm (by omega) (by omega) (by omega) (by omega) hsB hsT fun w3 hx3 => ?_
  have hrem : (((c 32).a : Nat) : Int) % 4 = 0 := by omega
  have hxb : Ext [] w2 w3 := Ext.trans (S := []) (by (repeat first | assumption | exact Ext.refl | apply Ext.alloc | apply Ext.drew | (refine Ext.updN ?_ ?_; (focus first | omega | (simp only [szR] <;> omega))) | (refine Ext.updI ?_ ?_; (focus (simp; done))))) hx3 (by simp)
  have kq : w3.heap[w2.heap.size]? = some (.cells (rnC ⟨nextX c, c, flV rb, flV_one rb, In.zero, Cq.zero, Cq.zero⟩).toArray 91 (0, 0)) := hx3.at (alloc_at rfl) (by simp)
  obtain ⟨q, hq⟩ : ∃ q, q = w2.heap.size := ⟨_, rfl⟩
  rw [← hq] at kq
  have hqb : q ≠ b0 ∧ q ≠ b0 + 1 ∧ q ≠ b0 + 1 + 1 ∧ rb ≠ q ∧ pb ≠ q := by omega
  obtain ⟨hq0, hq1, hq2, hqr, hqp⟩ := hqb
  have hlq : w.heap.size ≤ q := by have := hxa.size; omega
  rw [hchk]
  simp (disch := first | assumption | omega | (simp only [szR, cq_len, cq_all, cxC_len, cxC_all, inC_len, inC_all, rnC_len, rnC_all, ouC_len, ouC_all, vwC_len, vwC_all] <;> omega) | rfl | decide) only [gen0, gen1, gen2, rulesC, rulesX, rulesM, litR, bolR, Nat.reduceAdd, Nat.reduceLeDiff, numR, memR, valR, heapR, updR, intR, decR, extR, slR, segR, thenR, pnR, Int.reduceToNat, Int.reduceAdd, Int.reduceSub, Int.reduceLT, Int.reduceLE, Nat.reduceSub, Nat.reduceMul, Nat.reduceEqDiff, hrem]
  refine fetch_m (Fetch_spec (kM.ext hxb (by simp) (by simp)) hn ha hal hW fun w4 hx4 => ?_)
  simp (disch := first | assumption | omega | (simp only [szR, cq_len, cq_all, cxC_len, cxC_all, inC_len, inC_all, rnC_len, rnC_all, ouC_len, ouC_all, vwC_len, vwC_all] <;> omega) | rfl | decide) only [gen0, gen1, gen2, rulesC, rulesX, rulesM, litR, bolR, Nat.reduceAdd, Nat.reduceLeDiff, numR, memR, valR, heapR, updR, intR, decR, extR, slR, segR, thenR, pnR, Int.reduceToNat, Int.reduceAdd, Int.reduceSub, Int.reduceLT, Int.reduceLE, Nat.reduceSub, Nat.reduceMul, Nat.reduceEqDiff]
  refine hD _ _ fun w5 hx5 => ?_
  have hxc : Ext [] w2 w5 := (hxb.trans hx4 (by simp)).trans hx5 (by simp)
  replace k0 := hxc.at k0 (by simp)
  replace k1 := hxc.at k1 (by simp)
  replace k2 := hxc.at k2 (by simp)
  replace kM := kM.ext hxc (by simp) (by simp)
  replace kq := (hx4.trans hx5 (by simp)).at kq (by simp)
  replace hxa := hxa.trans hxc (by simp)
  replace lk0 := lt_of_at k0
  replace lk1 := lt_of_at k1
  replace lk2 := lt_of_at k2
  have lkq := lt_of_at kq
  replace lkM := kM.lt
  simp (disch := first | assumption | omega | (simp only [szR, cq_len, cq_all, cxC_len, cxC_all, inC_len, inC_all, rnC_len, rnC_all, ouC_len, ouC_all, vwC_len, vwC_all] <;> omega) | rfl | decide) only [gen0, gen1, gen2, rulesC, rulesX, rulesM, litR, bolR, Nat.reduceAdd, Nat.reduceLeDiff, numR, memR, valR, heapR, updR, intR, decR, extR, slR, segR, thenR, pnR, Int.reduceToNat, Int.reduceAdd, Int.reduceSub, Int.reduceLT, Int.reduceLE, Nat.reduceSub, Nat.reduceMul, Nat.reduceEqDiff, Bool.not_true]
  refine joinL.intro fun J10 hJ10 => ?_
  simp (disch := first | assumption | omega | (simp only [szR, cq_len, cq_all, cxC_len, cxC_all, inC_len, inC_all, rnC_len, rnC_all, ouC_len, ouC_all, vwC_len, vwC_all] <;> omega) | rfl | decide) only [gen0, gen1, gen2, rulesC, rulesX, rulesM, litR, bolR, Nat.reduceAdd, Nat.reduceLeDiff, numR, memR, valR, heapR, updR, intR, decR, extR, slR, segR, thenR, pnR, Int.reduceToNat, Int.reduceAdd, Int.reduceSub, Int.reduceLT, Int.reduceLE, Nat.reduceSub, Nat.reduceMul, Nat.reduceEqDiff, in_put, List.getD_cons_zero]
  rw [← hq]
  obtain ⟨b4, hb4⟩ : ∃ b4, b4 = w5.heap.size := ⟨_, rfl⟩
  have hxd : Ext [] w5 (w5.alloc (.cells (inC i).toArray 49)).drew := by (repeat first | assumption | exact Ext.refl | apply Ext.alloc | apply Ext.drew | (refine Ext.updN ?_ ?_; (focus first | omega | (simp only [szR] <;> omega))) | (refine Ext.updI ?_ ?_; (focus (simp; done))))
  have m4 : (w5.alloc (.cells (inC i).toArray 49)).drew.heap[b4]? = some (.cells (inC i).toArray 49 (0, 0)) := alloc_at hb4
  rw [← hb4]
  have m0 := hxd.at k0 (by simp)
  have m1 := hxd.at k1 (by simp)
  have m2 := hxd.at k2 (by simp)
  have mq := hxd.at kq (by simp)
  have hxe := hxa.trans hxd (by simp)
  have mM := kM.ext hxd (by simp) (by simp)
  generalize (w5.alloc (.cells (inC i).toArray 49)).drew = w6 at *
  have hq4 : q ≠ b4 := by omega
  obtain ⟨p0, hp0⟩ : ∃ p0 : Rn → Prop, p0 = fun r => r.c = nextX c ∧ r.d = c ∧ r.m = flV rb := ⟨_, rfl⟩
  obtain ⟨p1, hp1⟩ : ∃ p1 : Rn → Prop, p1 = fun r => p0 r ∧ r.i = i := ⟨_, rfl⟩
  obtain ⟨p2, hp2⟩ : ∃ p2 : Rn → Prop, p2 = fun r => p1 r ∧ r.a = regX c i.r1 := ⟨_, rfl⟩
  refine relX.fld q [p0, p1, p2] ?_
  (apply postX.is; (focus (intro v w2 hR hd; (try simp (disch := first | assumption | omega | (simp only [szR, cq_len, cq_all, cxC_len, cxC_all, inC_len, inC_all, rnC_len, rnC_all, ouC_len, ouC_all, vwC_len, vwC_all] <;> omega) | rfl | decide) only [gen0, gen1, gen2, rulesC, rulesX, rulesM, litR, bolR, Nat.reduceAdd, Nat.reduceLeDiff, numR, memR, valR, heapR, updR, intR, decR, extR, slR, segR, thenR, pnR, Int.reduceToNat, Int.reduceAdd, Int.reduceSub, Int.reduceLT, Int.reduceLE, Nat.reduceSub, Nat.reduceMul, Nat.reduceEqDiff, hd]); exact okX.fld)))
  (apply postX.is; (focus (intro v w2 hR hd; (try simp (disch := first | assumption | omega | (simp only [szR, cq_len, cq_all, cxC_len, cxC_all, inC_len, inC_all, rnC_len, rnC_all, ouC_len, ouC_all, vwC_len, vwC_all] <;> omega) | rfl | decide) only [gen0, gen1, gen2, rulesC, rulesX, rulesM, litR, bolR, Nat.reduceAdd, Nat.reduceLeDiff, numR, memR, valR, heapR, updR, intR, decR, extR, slR, segR, thenR, pnR, Int.reduceToNat, Int.reduceAdd, Int.reduceSub, Int.reduceLT, Int.reduceLE, Nat.reduceSub, Nat.reduceMul, Nat.reduceEqDiff, hd]); exact okX.fld)))
  (apply postX.is; (focus (intro v w2 hR hd; (try simp (disch := first | assumption | omega | (simp only [szR, cq_len, cq_all, cxC_len, cxC_all, inC_len, inC_all, rnC_len, rnC_all, ouC_len, ouC_all, vwC_len, vwC_all] <;> omega) | rfl | decide) only [gen0, gen1, gen2, rulesC, rulesX, rulesM, litR, bolR, Nat.reduceAdd, Nat.reduceLeDiff, numR, memR, valR, heapR, updR, intR, decR, extR, slR, segR, thenR, pnR, Int.reduceToNat, Int.reduceAdd, Int.reduceSub, Int.reduceLT, Int.reduceLE, Nat.reduceSub, Nat.reduceMul, Nat.reduceEqDiff, hd]); exact okX.fld)))
  (apply postX.is; (focus (intro v w2 hR hd; have e0 := hR.1.at m4 (by simp; try omega); (try simp (disch := first | assumption | omega | (simp only [szR, cq_len, cq_all, cxC_len, cxC_all, inC_len, inC_all, rnC_len, rnC_all, ouC_len, ouC_all, vwC_len, vwC_all] <;> omega) | rfl | decide) only [gen0, gen1, gen2, rulesC, rulesX, rulesM, litR, bolR, Nat.reduceAdd, Nat.reduceLeDiff, numR, memR, valR, heapR, updR, intR, decR, extR, slR, segR, thenR, pnR, Int.reduceToNat, Int.reduceAdd, Int.reduceSub, Int.reduceLT, Int.reduceLE, Nat.reduceSub, Nat.reduceMul, Nat.reduceEqDiff, hd, e0, inC_sub]); exact okX.fld)))
  (apply postX.is; (focus (intro v w2 hR hd; have e0 := hR.1.at m0 (by simp; try omega); (try simp (disch := first | assumption | omega | (simp only [szR, cq_len, cq_all, cxC_len, cxC_all, inC_len, inC_all, rnC_len, rnC_all, ouC_len, ouC_all, vwC_len, vwC_all] <;> omega) | rfl | decide) only [gen0, gen1, gen2, rulesC, rulesX, rulesM, litR, bolR, Nat.reduceAdd, Nat.reduceLeDiff, numR, memR, valR, heapR, updR, intR, decR, extR, slR, segR, thenR, pnR, Int.reduceToNat, Int.reduceAdd, Int.reduceSub, Int.reduceLT, Int.reduceLE, Nat.reduceSub, Nat.reduceMul, Nat.reduceEqDiff, hd, e0, cx_sub]); exact okX.fld)))
  (apply postX.is; (focus (intro v w2 hR hd; (try simp (disch := first | assumption | omega | (simp only [szR, cq_len, cq_all, cxC_len, cxC_all, inC_len, inC_all, rnC_len, rnC_all, ouC_len, ouC_all, vwC_len, vwC_all] <;> omega) | rfl | decide) only [gen0, gen1, gen2, rulesC, rulesX, rulesM, litR, bolR, Nat.reduceAdd, Nat.reduceLeDiff, numR, memR, valR, heapR, updR, intR, decR, extR, slR, segR, thenR, pnR, Int.reduceToNat, Int.reduceAdd, Int.reduceSub, Int.reduceLT, Int.reduceLE, Nat.reduceSub, Nat.reduceMul, Nat.reduceEqDiff, hd]); exact okX.fld)))
  (apply postX.is; (focus (intro v w2 hR hd; have e0 := hR.1.at m4 (by simp; try omega); (try simp (disch := first | assumption | omega | (simp only [szR, cq_len, cq_all, cxC_len, cxC_all, inC_len, inC_all, rnC_len, rnC_all, ouC_len, ouC_all, vwC_len, vwC_all] <;> omega) | rfl | decide) only [gen0, gen1, gen2, rulesC, rulesX, rulesM, litR, bolR, Nat.reduceAdd, Nat.reduceLeDiff, numR, memR, valR, heapR, updR, intR, decR, extR, slR, segR, thenR, pnR, Int.reduceToNat, Int.reduceAdd, Int.reduceSub, Int.reduceLT, Int.reduceLE, Nat.reduceSub, Nat.reduceMul, Nat.reduceEqDiff, hd, e0, in_r1]); exact okX.fld)))
  apply postX.is
  · intro v w2 hR hd
    simp (disch := first | assumption | omega | (simp only [szR, cq_len, cq_all, cxC_len, cxC_all, inC_len, inC_all, rnC_len, rnC_all, ouC_len, ouC_all, vwC_len, vwC_all] <;> omega) | rfl | decide) only [gen0, gen1, gen2, rulesC, rulesX, rulesM, litR, bolR, Nat.reduceAdd, Nat.reduceLeDiff, numR, memR, valR, heapR, updR, intR, decR, extR, slR, segR, thenR, pnR, Int.reduceToNat, Int.reduceAdd, Int.reduceSub, Int.reduceLT, Int.reduceLE, Nat.reduceSub, Nat.reduceMul, Nat.reduceEqDiff, hd]
    exact Get_reg h1 fun w3 hx3 => okX.mk (Fld.of hx3) rfl
  (apply postX.is; (focus (intro v w2 hR hd; have e0 := hR.1.at m0 (by simp; try omega); (try simp (disch := first | assumption | omega | (simp only [szR, cq_len, cq_all, cxC_len, cxC_all, inC_len, inC_all, rnC_len, rnC_all, ouC_len, ouC_all, vwC_len, vwC_all] <;> omega) | rfl | decide) only [gen0, gen1, gen2, rulesC, rulesX, rulesM, litR, bolR, Nat.reduceAdd, Nat.reduceLeDiff, numR, memR, valR, heapR, updR, intR, decR, extR, slR, segR, thenR, pnR, Int.reduceToNat, Int.reduceAdd, Int.reduceSub, Int.reduceLT, Int.reduceLE, Nat.reduceSub, Nat.reduceMul, Nat.reduceEqDiff, hd, e0, cx_sub]); exact okX.fld)))
  (apply postX.is; (focus (intro v w2 hR hd; (try simp (disch := first | assumption | omega | (simp only [szR, cq_len, cq_all, cxC_len, cxC_all, inC_len, inC_all, rnC_len, rnC_all, ouC_len, ouC_all, vwC_len, vwC_all] <;> omega) | rfl | decide) only [gen0, gen1, gen2, rulesC, rulesX, rulesM, litR, bolR, Nat.reduceAdd, Nat.reduceLeDiff, numR, memR, valR, heapR, updR, intR, decR, extR, slR, segR, thenR, pnR, Int.reduceToNat, Int.reduceAdd, Int.reduceSub, Int.reduceLT, Int.reduceLE, Nat.reduceSub, Nat.reduceMul, Nat.reduceEqDiff, hd]); exact okX.fld)))
  (apply postX.is; (focus (intro v w2 hR hd; have e0 := hR.1.at m4 (by simp; try omega); (try simp (disch := first | assumption | omega | (simp only [szR, cq_len, cq_all, cxC_len, cxC_all, inC_len, inC_all, rnC_len, rnC_all, ouC_len, ouC_all, vwC_len, vwC_all] <;> omega) | rfl | decide) only [gen0, gen1, gen2, rulesC, rulesX, rulesM, litR, bolR, Nat.reduceAdd, Nat.reduceLeDiff, numR, memR, valR, heapR, updR, intR, decR, extR, slR, segR, thenR, pnR, Int.reduceToNat, Int.reduceAdd, Int.reduceSub, Int.reduceLT, Int.reduceLE, Nat.reduceSub, Nat.reduceMul, Nat.reduceEqDiff, hd, e0, in_r2]); exact okX.fld)))
  apply postX.is
  · intro v w2 hR hd
    simp (disch := first | assumption | omega | (simp only [szR, cq_len, cq_all, cxC_len, cxC_all, inC_len, inC_all, rnC_len, rnC_all, ouC_len, ouC_all, vwC_len, vwC_all] <;> omega) | rfl | decide) only [gen0, gen1, gen2, rulesC, rulesX, rulesM, litR, bolR, Nat.reduceAdd, Nat.reduceLeDiff, numR, memR, valR, heapR, updR, intR, decR, extR, slR, segR, thenR, pnR, Int.reduceToNat, Int.reduceAdd, Int.reduceSub, Int.reduceLT, Int.reduceLE, Nat.reduceSub, Nat.reduceMul, Nat.reduceEqDiff, hd]
    exact Get_reg h2 fun w3 hx3 => okX.mk (Fld.of hx3) rfl
  (apply postX.is; (focus (intro v w2 hR hd; (try simp (disch := first | assumption | omega | (simp only [szR, cq_len, cq_all, cxC_len, cxC_all, inC_len, inC_all, rnC_len, rnC_all, ouC_len, ouC_all, vwC_len, vwC_all] <;> omega) | rfl | decide) only [gen0, gen1, gen2, rulesC, rulesX, rulesM, litR, bolR, Nat.reduceAdd, Nat.reduceLeDiff, numR, memR, valR, heapR, updR, intR, decR, extR, slR, segR, thenR, pnR, Int.reduceToNat, Int.reduceAdd, Int.reduceSub, Int.reduceLT, Int.reduceLE, Nat.reduceSub, Nat.reduceMul, Nat.reduceEqDiff, hd]); exact okX.fld)))
  (apply postX.is; (focus (intro v w2 hR hd; (try simp (disch := first | assumption | omega | (simp only [szR, cq_len, cq_all, cxC_len, cxC_all, inC_len, inC_all, rnC_len, rnC_all, ouC_len, ouC_all, vwC_len, vwC_all] <;> omega) | rfl | decide) only [gen0, gen1, gen2, rulesC, rulesX, rulesM, litR, bolR, Nat.reduceAdd, Nat.reduceLeDiff, numR, memR, valR, heapR, updR, intR, decR, extR, slR, segR, thenR, pnR, Int.reduceToNat, Int.reduceAdd, Int.reduceSub, Int.reduceLT, Int.reduceLE, Nat.reduceSub, Nat.reduceMul, Nat.reduceEqDiff, hd]); exact okX.fld)))
  refine postX.intro (fun _ w => ∃ r, p1 r ∧ w.heap[q]? = some (.cells (rnC r).toArray 91 (0, 0))) (fun _ _ _ hR h => hR.2 p1 (by simp) h) (fun v w2 hR hd => ?_) ?_
  · obtain ⟨r, hr, e⟩ := hR.has (p := p0) (by simp) (by rw [hp0]; exact ⟨rfl, rfl, rfl⟩) mq
    have le := lt_of_at e
    simp (disch := first | assumption | omega | (simp only [szR, cq_len, cq_all, cxC_len, cxC_all, inC_len, inC_all, rnC_len, rnC_all, ouC_len, ouC_all, vwC_len, vwC_all] <;> omega) | rfl | decide) only [gen0, gen1, gen2, rulesC, rulesX, rulesM, litR, bolR, Nat.reduceAdd, Nat.reduceLeDiff, numR, memR, valR, heapR, updR, intR, decR, extR, slR, segR, thenR, pnR, Int.reduceToNat, Int.reduceAdd, Int.reduceSub, Int.reduceLT, Int.reduceLE, Nat.reduceSub, Nat.reduceMul, Nat.reduceEqDiff, hd, e, rn_seti]
    have hxu : Ext [q] w2 (World.upd w2 q (rnC { r with i := i })) := by (repeat first | assumption | exact Ext.refl | apply Ext.alloc | apply Ext.drew | (refine Ext.updN ?_ ?_; (focus first | omega | (simp only [szR] <;> omega))) | (refine Ext.updI ?_ ?_; (focus (simp; done))))
    refine okX.mk (Fld.set (fun r => { r with i := i }) rn_i_inj hxu e (upd_at e) ?_) ⟨{ r with i := i }, by rw [hp1]; rw [hp0] at hr ⊢; exact ⟨hr, rfl⟩, upd_at e⟩
    rw [hp2, hp1, hp0]
    simp +contextual
  (apply postX.is; (focus (intro v w2 hR hd; (try simp (disch := first | assumption | omega | (simp only [szR, cq_len, cq_all, cxC_len, cxC_all, inC_len, inC_all, rnC_len, rnC_all, ouC_len, ouC_all, vwC_len, vwC_all] <;> omega) | rfl | decide) only [gen0, gen1, gen2, rulesC, rulesX, rulesM, litR, bolR, Nat.reduceAdd, Nat.reduceLeDiff, numR, memR, valR, heapR, updR, intR, decR, extR, slR, segR, thenR, pnR, Int.reduceToNat, Int.reduceAdd, Int.reduceSub, Int.reduceLT, Int.reduceLE, Nat.reduceSub, Nat.reduceMul, Nat.reduceEqDiff, hd]); exact okX.fld)))
  (apply postX.is; (focus (intro v w2 hR hd; (try simp (disch := first | assumption | omega | (simp only [szR, cq_len, cq_all, cxC_len, cxC_all, inC_len, inC_all, rnC_len, rnC_all, ouC_len, ouC_all, vwC_len, vwC_all] <;> omega) | rfl | decide) only [gen0, gen1, gen2, rulesC, rulesX, rulesM, litR, bolR, Nat.reduceAdd, Nat.reduceLeDiff, numR, memR, valR, heapR, updR, intR, decR, extR, slR, segR, thenR, pnR, Int.reduceToNat, Int.reduceAdd, Int.reduceSub, Int.reduceLT, Int.reduceLE, Nat.reduceSub, Nat.reduceMul, Nat.reduceEqDiff, hd]); exact okX.fld)))
  refine postX.intro (fun _ w => ∃ r, p2 r ∧ w.heap[q]? = some (.cells (rnC r).toArray 91 (0, 0))) (fun _ _ _ hR h => hR.2 p2 (by simp) h) (fun v w2 hR hd => ?_) ?_
  · obtain ⟨-, -, -, -, -, -, -, -, -, -, ⟨r, hr, e⟩, -⟩ := id hd
    have le := lt_of_at e
    simp (disch := first | assumption | omega | (simp only [szR, cq_len, cq_all, cxC_len, cxC_all, inC_len, inC_all, rnC_len, rnC_all, ouC_len, ouC_all, vwC_len, vwC_all] <;> omega) | rfl | decide) only [gen0, gen1, gen2, rulesC, rulesX, rulesM, litR, bolR, Nat.reduceAdd, Nat.reduceLeDiff, numR, memR, valR, heapR, updR, intR, decR, extR, slR, segR, thenR, pnR, Int.reduceToNat, Int.reduceAdd, Int.reduceSub, Int.reduceLT, Int.reduceLE, Nat.reduceSub, Nat.reduceMul, Nat.reduceEqDiff, hd, e, rn_seta]
    have hxu : Ext [q] w2 (World.upd w2 q (rnC { r with a := regX c i.r1 })) := by (repeat first | assumption | exact Ext.refl | apply Ext.alloc | apply Ext.drew | (refine Ext.updN ?_ ?_; (focus first | omega | (simp only [szR] <;> omega))) | (refine Ext.updI ?_ ?_; (focus (simp; done))))
    refine okX.mk (Fld.set (fun r => { r with a := regX c i.r1 }) rn_a_inj hxu e (upd_at e) ?_) ⟨{ r with a := regX c i.r1 }, by rw [hp2]; rw [hp1, hp0] at hr ⊢; exact ⟨hr, rfl⟩, upd_at e⟩
    rw [hp2, hp1, hp0]
    simp +contextual
  intro v w7 hR hd _
  obtain ⟨-, -, -, -, -, -, -, -, -, -, -, -, -, -, -, -, -, ⟨r, hr, eR⟩, -⟩ := id hd
  have le := lt_of_at eR
  simp (disch := first | assumption | omega | (simp only [szR, cq_len, cq_all, cxC_len, cxC_all, inC_len, inC_all, rnC_len, rnC_all, ouC_len, ouC_all, vwC_len, vwC_all] <;> omega) | rfl | decide) only [gen0, gen1, gen2, rulesC, rulesX, rulesM, litR, bolR, Nat.reduceAdd, Nat.reduceLeDiff, numR, memR, valR, heapR, updR, intR, decR, extR, slR, segR, thenR, pnR, Int.reduceToNat, Int.reduceAdd, Int.reduceSub, Int.reduceLT, Int.reduceLE, Nat.reduceSub, Nat.reduceMul, Nat.reduceEqDiff, hd, eR, rn_setb]
  have er : ({ r with b := regX c i.r2 } : Rn) = ⟨nextX c, c, flV rb, flV_one rb, i, regX c i.r1, regX c i.r2⟩ := by
    rw [hp2, hp1, hp0] at hr
    obtain ⟨⟨⟨h3, h4, h5⟩, h6⟩, h7⟩ := hr
    cases r
    simp only at h3 h4 h5 h6 h7
    subst h3 h4 h5 h6 h7
    rfl
  rw [er]
  have hxu : Ext [q] w7 (World.upd w7 q (rnC ⟨nextX c, c, flV rb, flV_one rb, i, regX c i.r1, regX c i.r2⟩)) := by (repeat first | assumption | exact Ext.refl | apply Ext.alloc | apply Ext.drew | (refine Ext.updN ?_ ?_; (focus first | omega | (simp only [szR] <;> omega))) | (refine Ext.updI ?_ ?_; (focus (simp; done))))
  have hxv : Ext [q] w6 (World.upd w7 q (rnC ⟨nextX c, c, flV rb, flV_one rb, i, regX c i.r1, regX c i.r2⟩)) := hR.1.step hxu
  replace m1 := hxv.at m1 (by simp; omega)
  replace m2 := hxv.at m2 (by simp; omega)
  replace mM := mM.ext hxv (by simp; omega) (by simp; omega)
  have mr := upd_at (l := rnC ⟨nextX c, c, flV rb, flV_one rb, i, regX c i.r1, regX c i.r2⟩) eR
  have hxw : Ext [] w (World.upd w7 q (rnC ⟨nextX c, c, flV rb, flV_one rb, i, regX c i.r1, regX c i.r2⟩)) := hxe.trans hxv (by simp; omega)
  generalize World.upd w7 q (rnC ⟨nextX c, c, flV rb, flV_one rb, i, regX c i.r1, regX c i.r2⟩) = w8 at *
  apply hJ10
  intro _
  simp (disch := first | assumption | omega | (simp only [szR, cq_len, cq_all, cxC_len, cxC_all, inC_len, inC_all, rnC_len, rnC_all, ouC_len, ouC_all, vwC_len, vwC_all] <;> omega) | rfl | decide) only [gen0, gen1, gen2, rulesC, rulesX, rulesM, litR, bolR, Nat.reduceAdd, Nat.reduceLeDiff, numR, memR, valR, heapR, updR, intR, decR, extR, slR, segR, thenR, pnR, Int.reduceToNat, Int.reduceAdd, Int.reduceSub, Int.reduceLT, Int.reduceLE, Nat.reduceSub, Nat.reduceMul, Nat.reduceEqDiff, List.getD_cons_zero]
  rw [← hq]
  have hpq : pb ≠ b0 + 1 ∧ pb ≠ b0 + 1 + 1 ∧ rb ≠ b0 + 1 ∧ rb ≠ b0 + 1 + 1 := by omega
  with_reducible refine hrun q w8 _ mr mM fun g' w9 hQ hM9 hx9 => ?_
  have n1 := hx9.at m1 (by simp; omega)
  have n2 := hx9.at m2 (by simp; omega)
  have ln1 := lt_of_at n1
  have ln2 := lt_of_at n2
  simp (disch := first | assumption | omega | (simp only [szR, cq_len, cq_all, cxC_len, cxC_all, inC_len, inC_all, rnC_len, rnC_all, ouC_len, ouC_all, vwC_len, vwC_all] <;> omega) | rfl | decide) only [gen0, gen1, gen2, rulesC, rulesX, rulesM, litR, bolR, Nat.reduceAdd, Nat.reduceLeDiff, numR, memR, valR, heapR, updR, intR, decR, extR, slR, segR, thenR, pnR, Int.reduceToNat, Int.reduceAdd, Int.reduceSub, Int.reduceLT, Int.reduceLE, Nat.reduceSub, Nat.reduceMul, Nat.reduceEqDiff, n1, n2, cx_over, cx_put, ou_over, ou_put, cx_sub, ou_sub]
  have hxo : Ext [b0 + 1, b0 + 1 + 1] w9 (World.upd (World.upd w9 (b0 + 1) (cxC d)) (b0 + 1 + 1) (ouC k e va i)) := by (repeat first | assumption | exact Ext.refl | apply Ext.alloc | apply Ext.drew | (refine Ext.updN ?_ ?_; (focus first | omega | (simp only [szR] <;> omega))) | (refine Ext.updI ?_ ?_; (focus (simp; done))))
  have hxp : Ext [pb] w w9 := (hxw.mono (by simp)).trans hx9 (by simp; omega)
  have hxz : Ext [pb] w (World.upd (World.upd w9 (b0 + 1) (cxC d)) (b0 + 1 + 1) (ouC k e va i)) := hxp.trans hxo (by simp; omega)
  generalize World.upd (World.upd w9 (b0 + 1) (cxC d)) (b0 + 1 + 1) (ouC k e va i) = w10 at *
  exact hK g' w10 hQ (hM9.ext hxo (by simp; omega) (by simp; omega)) hxz
end Go.Proofs.YtplfniijbeinmaaGreat
