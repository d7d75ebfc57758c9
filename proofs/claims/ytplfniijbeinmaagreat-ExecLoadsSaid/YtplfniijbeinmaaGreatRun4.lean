/- An instruction that loads, or stores, a capability; conditions: those of each theorem. -/
import Derived.Test.YtplfniijbeinmaaGreatRun3
namespace Go.Proofs.YtplfniijbeinmaaGreat
open Go.Fx
set_option maxRecDepth 100000
set_option linter.unusedSimpArgs false
set_option linter.unusedVariables false
theorem kN_flv {r : Rn} {rb : Nat} (h : r.m = flV rb) {w : World} {K : Value → World → Prop} : kN Tryz.prog (nilN r.m) w K = K r.m w := by
  rw [h]
  rfl
theorem sN_flv {r : Rn} {rb : Nat} (h : r.m = flV rb) {w : World} {K : Value → Prop} : sN Tryz.prog (nilN r.m) w K = K r.m := by
  rw [h]
  exact sN_fl
theorem storeCap_m {r : Rn} {rb : Nat} (h : r.m = flV rb) {va x : Value} {w : World} {K : Value → World → Prop} (hc : callsK Tryz.prog 162 #[.agg [.pointer (some ⟨rb, 0, none⟩)].toArray, va, x] w K) : kN Tryz.prog (callMethod r.m "StoreCap" #[va, x]) w K := by
  rw [h]
  exact callStoreCap hc
theorem loadCap_m {rb : Nat} {va : Value} {w : World} {K : Value → World → Prop} (hc : callsK Tryz.prog 160 #[.agg [.pointer (some ⟨rb, 0, none⟩)].toArray, va] w K) : kN Tryz.prog (callMethod (flV rb) "LoadCap" #[va]) w K := callLoadCap hc
theorem fetch_m {rb : Nat} {va : Value} {w : World} {K : Value → World → Prop} (hc : callsK Tryz.prog 158 #[.agg [.pointer (some ⟨rb, 0, none⟩)].toArray, va] w K) : kN Tryz.prog (callMethod (flV rb) "Fetch" #[va]) w K := callFetch hc
/-- a region in which one block that is made in it is written. -/
theorem relX.any (N : Nat) (Y : Obj) {G : (World → World → Prop) → Prop} (h : G fun w w' => (∃ S, Ext S w w' ∧ ∀ k ∈ S, N ≤ k) ∧ ∀ (b : Nat) x, w.heap[b]? = some x → w'.heap[b]? = some x ∨ (N ≤ b ∧ w'.heap[b]? = some Y)) : relX G := by
  refine ⟨_, fun _ => ⟨⟨[], Ext.refl, by simp⟩, fun b x hx => .inl hx⟩, fun a b c h1 h2 => ⟨?_, fun k x hx => ?_⟩, fun _ _ h => h.1.choose_spec.1.size, h⟩
  · obtain ⟨⟨S, s1, s2⟩, -⟩ := h1
    obtain ⟨⟨T, t1, t2⟩, -⟩ := h2
    exact ⟨S ++ T, (s1.mono (by simp +contextual)).step (t1.mono (by simp +contextual)), fun k hk => by
      rcases List.mem_append.1 hk with hk | hk
      · exact s2 k hk
      · exact t2 k hk⟩
  · rcases h1.2 k x hx with h3 | ⟨h3, h4⟩
    · exact h2.2 k x h3
    · rcases h2.2 k Y h4 with h5 | h5
      · exact .inr ⟨h3, h5⟩
      · exact .inr h5
theorem Mem.neR {w : World} {q rb pb n : Nat} {r : Rn} {m g : Nat → Int} (h : Mem w rb pb n m g) (hr : w.heap[q]? = some (.cells (rnC r).toArray 91 (0, 0))) : q ≠ pb := by
  rintro rfl
  obtain ⟨L, h1, -⟩ := h.body
  rw [hr] at h1
  simp only [Option.some.injEq, Obj.cells.injEq] at h1
  exact absurd h1.2.1 (by decide)
def AnyR (N : Nat) (Y : Obj) (w w' : World) : Prop := (∃ S, Ext S w w' ∧ ∀ k ∈ S, N ≤ k) ∧ ∀ (b : Nat) x, w.heap[b]? = some x → w'.heap[b]? = some x ∨ (N ≤ b ∧ w'.heap[b]? = some Y)
theorem relX.anyR (N : Nat) (Y : Obj) {G : (World → World → Prop) → Prop} (h : G (AnyR N Y)) : relX G := relX.any N Y h
theorem AnyR.of {N : Nat} {Y : Obj} {w w' : World} (h : Ext [] w w') : AnyR N Y w w' := ⟨⟨[], h, by simp⟩, fun b x hx => .inl (h.at hx (by simp))⟩
theorem AnyR.at {N : Nat} {Y : Obj} {w w' : World} (h : AnyR N Y w w') {b : Nat} {x : Obj} (hx : w.heap[b]? = some x) (hb : b < N) : w'.heap[b]? = some x := by
  rcases h.2 b x hx with h | ⟨h, -⟩
  · exact h
  · omega
theorem AnyR.mem {N : Nat} {Y : Obj} {w w' : World} (h : AnyR N Y w w') {rb pb n : Nat} {m g : Nat → Int} (hM : Mem w rb pb n m g) (h1 : rb < N) (h2 : pb < N) : Mem w' rb pb n m g := by
  obtain ⟨⟨S, s1, s2⟩, -⟩ := h
  exact hM.ext s1 (fun hc => by have := s2 _ hc; omega) (fun hc => by have := s2 _ hc; omega)
theorem okX.any {N : Nat} {Y : Obj} {w : World} {v : Value} : okX (AnyR N Y) w (fun u _ => u = v) v w := ⟨AnyR.of Ext.refl, rfl⟩
set_option maxHeartbeats 1000000 in
theorem memW_spec {w : World} {q rb pb n x : Nat} {r : Rn} {m g : Nat → Int} (hr : w.heap[q]? = some (.cells (rnC r).toArray 91 (0, 0))) (ho : r.i.op = 44) (hm : r.m = flV rb) (hM : Mem w rb pb n m g) (hn : 0 < n ∧ n ≤ 1000) (hx : r.a.a + r.i.im = x) (hx64 : x + 16 < 18446744073709551616) (him : r.i.im < 9223372036854775808) (ham : r.a.m < 18446744073709551616) (hsB : spB (spM r.a.m x) < 18446744073709551616) (hsT : spT (spM r.a.m x) < 18446744073709551616) (hxn : x < n * 4096) (hal : x % 16 = 0) (hbm : r.b.m < 18446744073709551616) (hba : r.b.a < 18446744073709551616) (hchk : chkN (moveT r.a.t r.a.m r.a.a x) r.a.m x (kdW r.b.t) 16 = 0) {K : Value → World → Prop}
    (hK : ∀ g' w', Mem w' rb pb n (laid m x 16 (capBy (r.b.m : Nat) (r.b.a : Nat))) g' → (∀ j, j < n * 256 → bit g' j = if j = x / 16 then r.b.t else bit g j) → Ext [pb] w w' → K (.tuple #[.agg (cxC r.c).toArray, .agg (ouC 0 0 0 r.i).toArray]) w') : callsK Tryz.prog 73 #[.pointer (some ⟨q, 0, none⟩), .int .i64 16] w K := by
  apply F73_ok
  unfold F73
  have l0 := lt_of_at hr
  simp (disch := first | assumption | omega | (simp only [szR, cq_len, cq_all, cxC_len, cxC_all, inC_len, inC_all, rnC_len, rnC_all, ouC_len, ouC_all, vwC_len, vwC_all] <;> omega) | rfl | decide) only [gen0, gen1, gen2, rulesC, rulesX, rulesM, litR, bolR, Nat.reduceAdd, Nat.reduceLeDiff, numR, memR, valR, heapR, updR, intR, decR, extR, slR, segR, thenR, pnR, Int.reduceToNat, Int.reduceAdd, Int.reduceSub, Int.reduceLT, Int.reduceLE, Nat.reduceSub, Nat.reduceMul, Nat.reduceEqDiff, zeroX_cells]
  refine joinL.intro fun J0 hJ0 => ?_
  simp (disch := first | assumption | omega | (simp only [szR, cq_len, cq_all, cxC_len, cxC_all, inC_len, inC_all, rnC_len, rnC_all, ouC_len, ouC_all, vwC_len, vwC_all] <;> omega) | rfl | decide) only [gen0, gen1, gen2, rulesC, rulesX, rulesM, litR, bolR, Nat.reduceAdd, Nat.reduceLeDiff, numR, memR, valR, heapR, updR, intR, decR, extR, slR, segR, thenR, pnR, Int.reduceToNat, Int.reduceAdd, Int.reduceSub, Int.reduceLT, Int.reduceLE, Nat.reduceSub, Nat.reduceMul, Nat.reduceEqDiff]
  have hx0 : Ext [] w ((w.alloc (.cells (cxC zeroX).toArray 42)).alloc (.cells [.int .i64 0, .int .i64 0, .int .u64 0, .int .i64 0, .int .i64 0, .int .i64 0, .int .i64 0, .int .i64 0].toArray 51)).drew := by (repeat first | assumption | exact Ext.refl | apply Ext.alloc | apply Ext.drew | (refine Ext.updN ?_ ?_; (focus first | omega | (simp only [szR] <;> omega))) | (refine Ext.updI ?_ ?_; (focus (simp; done))))
  have g1 : ((w.alloc (.cells (cxC zeroX).toArray 42)).alloc (.cells [.int .i64 0, .int .i64 0, .int .u64 0, .int .i64 0, .int .i64 0, .int .i64 0, .int .i64 0, .int .i64 0].toArray 51)).drew.heap[w.heap.size]? = some (.cells (cxC zeroX).toArray 42 (0, 0)) := (by first | with_reducible rfl | assumption | (simp (disch := first | assumption | omega | (simp only [szR, cq_len, cq_all, cxC_len, cxC_all, inC_len, inC_all, rnC_len, rnC_all, ouC_len, ouC_all, vwC_len, vwC_all] <;> omega) | rfl | decide) only [gen0, gen1, gen2, rulesC, rulesX, rulesM, litR, bolR, Nat.reduceAdd, Nat.reduceLeDiff, numR, memR, valR, heapR, updR, intR, decR, extR, slR, segR, thenR, pnR, Int.reduceToNat, Int.reduceAdd, Int.reduceSub, Int.reduceLT, Int.reduceLE, Nat.reduceSub, Nat.reduceMul, Nat.reduceEqDiff] <;> rfl))
  have g2 : ((w.alloc (.cells (cxC zeroX).toArray 42)).alloc (.cells [.int .i64 0, .int .i64 0, .int .u64 0, .int .i64 0, .int .i64 0, .int .i64 0, .int .i64 0, .int .i64 0].toArray 51)).drew.heap[w.heap.size + 1]? = some (.cells [.int .i64 0, .int .i64 0, .int .u64 0, .int .i64 0, .int .i64 0, .int .i64 0, .int .i64 0, .int .i64 0].toArray 51 (0, 0)) := (by first | with_reducible rfl | assumption | (simp (disch := first | assumption | omega | (simp only [szR, cq_len, cq_all, cxC_len, cxC_all, inC_len, inC_all, rnC_len, rnC_all, ouC_len, ouC_all, vwC_len, vwC_all] <;> omega) | rfl | decide) only [gen0, gen1, gen2, rulesC, rulesX, rulesM, litR, bolR, Nat.reduceAdd, Nat.reduceLeDiff, numR, memR, valR, heapR, updR, intR, decR, extR, slR, segR, thenR, pnR, Int.reduceToNat, Int.reduceAdd, Int.reduceSub, Int.reduceLT, Int.reduceLE, Nat.reduceSub, Nat.reduceMul, Nat.reduceEqDiff] <;> rfl))
  have g0 := hx0.at hr (by simp)
  have hM1 := hM.ext hx0 (by simp) (by simp)
  obtain ⟨b1, hb1⟩ : ∃ b1, b1 = w.heap.size := ⟨_, rfl⟩
  have hq : q < b1 := by omega
  rw [← hb1] at g1 g2 hJ0
  generalize ((w.alloc (.cells (cxC zeroX).toArray 42)).alloc (.cells [.int .i64 0, .int .i64 0, .int .u64 0, .int .i64 0, .int .i64 0, .int .i64 0, .int .i64 0, .int .i64 0].toArray 51)).drew = w1 at *
  obtain ⟨p, hp⟩ : ∃ p : Cq, p = ⟨moveT r.a.t r.a.m r.a.a x, r.a.m, x⟩ := ⟨_, rfl⟩
  have hpt : p.t = moveT r.a.t r.a.m r.a.a x := by rw [hp]
  have hpm : p.m = r.a.m := by rw [hp]
  have hpa : p.a = x := by rw [hp]
  have hw : IntKind.u64.wrap ((r.a.a : Int) + (r.i.im : Nat)) = (x : Nat) := by
    rw [wrapMod]
    omega
  refine relX.ext [] ?_
  refine postX.is (.pointer (some ⟨q, 0, none⟩)) (fun v w2 hR _ => okX.is) ?_
  refine postX.is (.pointer (some ⟨q, 0, none⟩)) (fun v w2 hR hd => by
    obtain ⟨d1, -⟩ := hd
    simp (disch := first | assumption | omega | (simp only [szR, cq_len, cq_all, cxC_len, cxC_all, inC_len, inC_all, rnC_len, rnC_all, ouC_len, ouC_all, vwC_len, vwC_all] <;> omega) | rfl | decide) only [gen0, gen1, gen2, rulesC, rulesX, rulesM, litR, bolR, Nat.reduceAdd, Nat.reduceLeDiff, numR, memR, valR, heapR, updR, intR, decR, extR, slR, segR, thenR, pnR, Int.reduceToNat, Int.reduceAdd, Int.reduceSub, Int.reduceLT, Int.reduceLE, Nat.reduceSub, Nat.reduceMul, Nat.reduceEqDiff, d1]
    exact okX.is) ?_
  refine postX.is (.pointer (some ⟨q, 204, none⟩)) (fun v w2 hR hd => by
    obtain ⟨d1, -⟩ := hd
    simp (disch := first | assumption | omega | (simp only [szR, cq_len, cq_all, cxC_len, cxC_all, inC_len, inC_all, rnC_len, rnC_all, ouC_len, ouC_all, vwC_len, vwC_all] <;> omega) | rfl | decide) only [gen0, gen1, gen2, rulesC, rulesX, rulesM, litR, bolR, Nat.reduceAdd, Nat.reduceLeDiff, numR, memR, valR, heapR, updR, intR, decR, extR, slR, segR, thenR, pnR, Int.reduceToNat, Int.reduceAdd, Int.reduceSub, Int.reduceLT, Int.reduceLE, Nat.reduceSub, Nat.reduceMul, Nat.reduceEqDiff, d1]
    exact okX.is) ?_
  refine postX.is (.agg (cq r.a).toArray) (fun v w2 hR hd => by
    obtain ⟨d1, -⟩ := hd
    have e := hR.at g0 (by simp)
    simp (disch := first | assumption | omega | (simp only [szR, cq_len, cq_all, cxC_len, cxC_all, inC_len, inC_all, rnC_len, rnC_all, ouC_len, ouC_all, vwC_len, vwC_all] <;> omega) | rfl | decide) only [gen0, gen1, gen2, rulesC, rulesX, rulesM, litR, bolR, Nat.reduceAdd, Nat.reduceLeDiff, numR, memR, valR, heapR, updR, intR, decR, extR, slR, segR, thenR, pnR, Int.reduceToNat, Int.reduceAdd, Int.reduceSub, Int.reduceLT, Int.reduceLE, Nat.reduceSub, Nat.reduceMul, Nat.reduceEqDiff, d1, e, rn_a]
    exact okX.is) ?_
  refine postX.is (.pointer (some ⟨q, 0, none⟩)) (fun v w2 hR _ => okX.is) ?_
  refine postX.is (.pointer (some ⟨q, 0, none⟩)) (fun v w2 hR hd => by
    obtain ⟨d1, -⟩ := hd
    simp (disch := first | assumption | omega | (simp only [szR, cq_len, cq_all, cxC_len, cxC_all, inC_len, inC_all, rnC_len, rnC_all, ouC_len, ouC_all, vwC_len, vwC_all] <;> omega) | rfl | decide) only [gen0, gen1, gen2, rulesC, rulesX, rulesM, litR, bolR, Nat.reduceAdd, Nat.reduceLeDiff, numR, memR, valR, heapR, updR, intR, decR, extR, slR, segR, thenR, pnR, Int.reduceToNat, Int.reduceAdd, Int.reduceSub, Int.reduceLT, Int.reduceLE, Nat.reduceSub, Nat.reduceMul, Nat.reduceEqDiff, d1]
    exact okX.is) ?_
  refine postX.is (.pointer (some ⟨q, 199, none⟩)) (fun v w2 hR hd => by
    obtain ⟨d1, -⟩ := hd
    simp (disch := first | assumption | omega | (simp only [szR, cq_len, cq_all, cxC_len, cxC_all, inC_len, inC_all, rnC_len, rnC_all, ouC_len, ouC_all, vwC_len, vwC_all] <;> omega) | rfl | decide) only [gen0, gen1, gen2, rulesC, rulesX, rulesM, litR, bolR, Nat.reduceAdd, Nat.reduceLeDiff, numR, memR, valR, heapR, updR, intR, decR, extR, slR, segR, thenR, pnR, Int.reduceToNat, Int.reduceAdd, Int.reduceSub, Int.reduceLT, Int.reduceLE, Nat.reduceSub, Nat.reduceMul, Nat.reduceEqDiff, d1]
    exact okX.is) ?_
  refine postX.is (.pointer (some ⟨q, 203, none⟩)) (fun v w2 hR hd => by
    obtain ⟨d1, -⟩ := hd
    simp (disch := first | assumption | omega | (simp only [szR, cq_len, cq_all, cxC_len, cxC_all, inC_len, inC_all, rnC_len, rnC_all, ouC_len, ouC_all, vwC_len, vwC_all] <;> omega) | rfl | decide) only [gen0, gen1, gen2, rulesC, rulesX, rulesM, litR, bolR, Nat.reduceAdd, Nat.reduceLeDiff, numR, memR, valR, heapR, updR, intR, decR, extR, slR, segR, thenR, pnR, Int.reduceToNat, Int.reduceAdd, Int.reduceSub, Int.reduceLT, Int.reduceLE, Nat.reduceSub, Nat.reduceMul, Nat.reduceEqDiff, d1]
    exact okX.is) ?_
  refine postX.is (.int .i64 (r.i.im : Nat)) (fun v w2 hR hd => by
    obtain ⟨d1, -⟩ := hd
    have e := hR.at g0 (by simp)
    simp (disch := first | assumption | omega | (simp only [szR, cq_len, cq_all, cxC_len, cxC_all, inC_len, inC_all, rnC_len, rnC_all, ouC_len, ouC_all, vwC_len, vwC_all] <;> omega) | rfl | decide) only [gen0, gen1, gen2, rulesC, rulesX, rulesM, litR, bolR, Nat.reduceAdd, Nat.reduceLeDiff, numR, memR, valR, heapR, updR, intR, decR, extR, slR, segR, thenR, pnR, Int.reduceToNat, Int.reduceAdd, Int.reduceSub, Int.reduceLT, Int.reduceLE, Nat.reduceSub, Nat.reduceMul, Nat.reduceEqDiff, d1, e, rn_im]
    exact okX.is) ?_
  refine postX.is (.int .u64 (r.i.im : Nat)) (fun v w2 hR hd => by
    obtain ⟨d1, -⟩ := hd
    simp (disch := first | assumption | omega | (simp only [szR, cq_len, cq_all, cxC_len, cxC_all, inC_len, inC_all, rnC_len, rnC_all, ouC_len, ouC_all, vwC_len, vwC_all] <;> omega) | rfl | decide) only [gen0, gen1, gen2, rulesC, rulesX, rulesM, litR, bolR, Nat.reduceAdd, Nat.reduceLeDiff, numR, memR, valR, heapR, updR, intR, decR, extR, slR, segR, thenR, pnR, Int.reduceToNat, Int.reduceAdd, Int.reduceSub, Int.reduceLT, Int.reduceLE, Nat.reduceSub, Nat.reduceMul, Nat.reduceEqDiff, d1]
    exact okX.is) ?_
  refine postX.is (.agg (cq p).toArray) (fun v w2 hR hd => by
    obtain ⟨d1, d2, -⟩ := hd
    simp (disch := first | assumption | omega | (simp only [szR, cq_len, cq_all, cxC_len, cxC_all, inC_len, inC_all, rnC_len, rnC_all, ouC_len, ouC_all, vwC_len, vwC_all] <;> omega) | rfl | decide) only [gen0, gen1, gen2, rulesC, rulesX, rulesM, litR, bolR, Nat.reduceAdd, Nat.reduceLeDiff, numR, memR, valR, heapR, updR, intR, decR, extR, slR, segR, thenR, pnR, Int.reduceToNat, Int.reduceAdd, Int.reduceSub, Int.reduceLT, Int.reduceLE, Nat.reduceSub, Nat.reduceMul, Nat.reduceEqDiff, d1, d2]
    refine Move_spec (t := r.a.t) (m := r.a.m) (a := r.a.a) (b := x) ham (by omega) (by omega) hw fun w3 hx3 => okX.mk hx3 (by rw [hp]; rfl)) ?_
  refine postX.intro (fun v w => ∃ b, v = .pointer (some ⟨b, 0, none⟩) ∧ w1.heap.size ≤ b ∧ w.heap[b]? = some (.cells [.bool false, .int .u64 0, .int .u64 0].toArray 24 (0, 0))) (fun _ w w' hR h => by
    obtain ⟨b, h1, h2, h3⟩ := h
    exact ⟨b, h1, h2, hR.at h3 (by simp)⟩) (fun v w2 hR _ => by
    simp (disch := first | assumption | omega | (simp only [szR, cq_len, cq_all, cxC_len, cxC_all, inC_len, inC_all, rnC_len, rnC_all, ouC_len, ouC_all, vwC_len, vwC_all] <;> omega) | rfl | decide) only [gen0, gen1, gen2, rulesC, rulesX, rulesM, litR, bolR, Nat.reduceAdd, Nat.reduceLeDiff, numR, memR, valR, heapR, updR, intR, decR, extR, slR, segR, thenR, pnR, Int.reduceToNat, Int.reduceAdd, Int.reduceSub, Int.reduceLT, Int.reduceLE, Nat.reduceSub, Nat.reduceMul, Nat.reduceEqDiff]
    refine okX.mk (by (repeat first | assumption | exact Ext.refl | apply Ext.alloc | apply Ext.drew | (refine Ext.updN ?_ ?_; (focus first | omega | (simp only [szR] <;> omega))) | (refine Ext.updI ?_ ?_; (focus (simp; done))))) ⟨w2.heap.size, rfl, hR.size, (by first | with_reducible rfl | assumption | (simp (disch := first | assumption | omega | (simp only [szR, cq_len, cq_all, cxC_len, cxC_all, inC_len, inC_all, rnC_len, rnC_all, ouC_len, ouC_all, vwC_len, vwC_all] <;> omega) | rfl | decide) only [gen0, gen1, gen2, rulesC, rulesX, rulesM, litR, bolR, Nat.reduceAdd, Nat.reduceLeDiff, numR, memR, valR, heapR, updR, intR, decR, extR, slR, segR, thenR, pnR, Int.reduceToNat, Int.reduceAdd, Int.reduceSub, Int.reduceLT, Int.reduceLE, Nat.reduceSub, Nat.reduceMul, Nat.reduceEqDiff] <;> rfl))⟩) ?_
  intro v w2 hR hd _
  obtain ⟨-, -, -, -, -, -, -, -, -, -, d25, ⟨b6, d6, hb6, h6⟩, -⟩ := hd
  have h0 := hR.at g0 (by simp)
  have h1 := hR.at g1 (by simp)
  have h2 := hR.at g2 (by simp)
  have hM2 := hM1.ext hR (by simp) (by simp)
  rw [d25, d6]
  have lg0 := lt_of_at g0
  have lg1 := lt_of_at g1
  have lg2 := lt_of_at g2
  have lM := hM1.lt
  have l6 := lt_of_at h6
  simp (disch := first | assumption | omega | (simp only [szR, cq_len, cq_all, cxC_len, cxC_all, inC_len, inC_all, rnC_len, rnC_all, ouC_len, ouC_all, vwC_len, vwC_all] <;> omega) | rfl | decide) only [gen0, gen1, gen2, rulesC, rulesX, rulesM, litR, bolR, Nat.reduceAdd, Nat.reduceLeDiff, numR, memR, valR, heapR, updR, intR, decR, extR, slR, segR, thenR, pnR, Int.reduceToNat, Int.reduceAdd, Int.reduceSub, Int.reduceLT, Int.reduceLE, Nat.reduceSub, Nat.reduceMul, Nat.reduceEqDiff, h6, cq_over0, cq_put]
  apply hJ0
  intro _
  have c2 : (cq p)[2]? = some (.int .u64 (p.a : Nat)) := rfl
  have hxe : Ext [b6] w2 (World.upd w2 b6 (cq p)).drew := by (repeat first | assumption | exact Ext.refl | apply Ext.alloc | apply Ext.drew | (refine Ext.updN ?_ ?_; (focus first | omega | (simp only [szR] <;> omega))) | (refine Ext.updI ?_ ?_; (focus (simp; done))))
  have m0 : (World.upd w2 b6 (cq p)).drew.heap[q]? = some (.cells (rnC r).toArray 91 (0, 0)) := (upd_ne (by omega)).trans h0
  have m1 : (World.upd w2 b6 (cq p)).drew.heap[b1]? = some (.cells (cxC zeroX).toArray 42 (0, 0)) := (upd_ne (by omega)).trans h1
  have m2 : (World.upd w2 b6 (cq p)).drew.heap[b1 + 1]? = some (.cells [.int .i64 0, .int .i64 0, .int .u64 0, .int .i64 0, .int .i64 0, .int .i64 0, .int .i64 0, .int .i64 0].toArray 51 (0, 0)) := (upd_ne (by omega)).trans h2
  have m6 : (World.upd w2 b6 (cq p)).drew.heap[b6]? = some (.cells (cq p).toArray 24 (0, 0)) := upd_at h6
  have hM3 : Mem (World.upd w2 b6 (cq p)).drew rb pb n m g := hM2.ext hxe (by simp; omega) (by simp; omega)
  have hs01 := hx0.size
  have hxa : Ext [] w (World.upd w2 b6 (cq p)).drew := (hx0.trans hR (by simp)).trans hxe (by simp; omega)
  simp (disch := first | assumption | omega | (simp only [szR, cq_len, cq_all, cxC_len, cxC_all, inC_len, inC_all, rnC_len, rnC_all, ouC_len, ouC_all, vwC_len, vwC_all] <;> omega) | rfl | decide) only [gen0, gen1, gen2, rulesC, rulesX, rulesM, litR, bolR, Nat.reduceAdd, Nat.reduceLeDiff, numR, memR, valR, heapR, updR, intR, decR, extR, slR, segR, thenR, pnR, Int.reduceToNat, Int.reduceAdd, Int.reduceSub, Int.reduceLT, Int.reduceLE, Nat.reduceSub, Nat.reduceMul, Nat.reduceEqDiff, h6, cq_sub]
  refine kindW_still m0 ho ?_
  simp (disch := first | assumption | omega | (simp only [szR, cq_len, cq_all, cxC_len, cxC_all, inC_len, inC_all, rnC_len, rnC_all, ouC_len, ouC_all, vwC_len, vwC_all] <;> omega) | rfl | decide) only [gen0, gen1, gen2, rulesC, rulesX, rulesM, litR, bolR, Nat.reduceAdd, Nat.reduceLeDiff, numR, memR, valR, heapR, updR, intR, decR, extR, slR, segR, thenR, pnR, Int.reduceToNat, Int.reduceAdd, Int.reduceSub, Int.reduceLT, Int.reduceLE, Nat.reduceSub, Nat.reduceMul, Nat.reduceEqDiff]
  refine Check_spec (t := p.t) (m := p.m) (a := p.a) (k := kdW r.b.t) (n := 16) (by rw [hpm]; exact ham) (by omega) (kdW_lt _) (Nat.le_refl _) (by omega) (by rw [hpm, hpa]; exact hsB) (by rw [hpm, hpa]; exact hsT) fun w4 hx4 => ?_
  have n0 := hx4.at m0 (by simp)
  have n1 := hx4.at m1 (by simp)
  have n2 := hx4.at m2 (by simp)
  have n6 := hx4.at m6 (by simp)
  have hM4 := hM3.ext hx4 (by simp) (by simp)
  have hxb := hxa.trans hx4 (by simp)
  have ln1 := lt_of_at n1
  have ln2 := lt_of_at n2
  have ln6 := lt_of_at n6
  have hck : ((chkN p.t p.m p.a (kdW r.b.t) 16 : Nat) : Int) = 0 := by rw [hpt, hpm, hpa, hchk]; rfl
  have hrem : ((p.a : Nat) : Int) % 16 = 0 := by omega
  have eop := rn_op r
  rw [ho] at eop
  rw [hck]
  simp (disch := first | assumption | omega | (simp only [szR, cq_len, cq_all, cxC_len, cxC_all, inC_len, inC_all, rnC_len, rnC_all, ouC_len, ouC_all, vwC_len, vwC_all] <;> omega) | rfl | decide) only [gen0, gen1, gen2, rulesC, rulesX, rulesM, litR, bolR, Nat.reduceAdd, Nat.reduceLeDiff, numR, memR, valR, heapR, updR, intR, decR, extR, slR, segR, thenR, pnR, Int.reduceToNat, Int.reduceAdd, Int.reduceSub, Int.reduceLT, Int.reduceLE, Nat.reduceSub, Nat.reduceMul, Nat.reduceEqDiff, n6, c2, hrem]
  refine joinL.intro fun J6 hJ6 => ?_
  have hsn : ∀ (w : World) (K : Value → Prop), sN Tryz.prog (nilN r.m) w K = K r.m := fun _ _ => sN_flv hm
  simp (disch := first | assumption | omega | (simp only [szR, cq_len, cq_all, cxC_len, cxC_all, inC_len, inC_all, rnC_len, rnC_all, ouC_len, ouC_all, vwC_len, vwC_all] <;> omega) | rfl | decide) only [gen0, gen1, gen2, rulesC, rulesX, rulesM, litR, bolR, Nat.reduceAdd, Nat.reduceLeDiff, numR, memR, valR, heapR, updR, intR, decR, extR, slR, segR, thenR, pnR, Int.reduceToNat, Int.reduceAdd, Int.reduceSub, Int.reduceLT, Int.reduceLE, Nat.reduceSub, Nat.reduceMul, Nat.reduceEqDiff, n0, eop, rn_m, hsn, n6, c2, rn_b]
  have hxd : Ext [] w4 w4.drew := by (repeat first | assumption | exact Ext.refl | apply Ext.alloc | apply Ext.drew | (refine Ext.updN ?_ ?_; (focus first | omega | (simp only [szR] <;> omega))) | (refine Ext.updI ?_ ?_; (focus (simp; done))))
  refine storeCap_m hm ?_
  rw [hpa]
  refine FStoreCap_spec (hM4.ext hxd (by simp) (by simp)) hn hxn hal hbm hba fun g' w5 hM5 hg hx5 => ?_
  have lM0 := hM.lt
  have hqp : q ≠ pb := hM4.neR n0
  have k0 := (hx5.at (hxd.at n0 (by simp)) (by simpa using hqp))
  have k1 := (hx5.at (hxd.at n1 (by simp)) (by simp; omega))
  have k2 := (hx5.at (hxd.at n2 (by simp)) (by simp; omega))
  have hxf : Ext [pb] w w5 := ((hxb.mono (by simp)).step (hxd.mono (by simp))).step hx5
  apply hJ6
  intro _
  simp (disch := first | assumption | omega | (simp only [szR, cq_len, cq_all, cxC_len, cxC_all, inC_len, inC_all, rnC_len, rnC_all, ouC_len, ouC_all, vwC_len, vwC_all] <;> omega) | rfl | decide) only [gen0, gen1, gen2, rulesC, rulesX, rulesM, litR, bolR, Nat.reduceAdd, Nat.reduceLeDiff, numR, memR, valR, heapR, updR, intR, decR, extR, slR, segR, thenR, pnR, Int.reduceToNat, Int.reduceAdd, Int.reduceSub, Int.reduceLT, Int.reduceLE, Nat.reduceSub, Nat.reduceMul, Nat.reduceEqDiff]
  refine retire_spec k0 fun w6 hx6 => ?_
  have o1 := hx6.at k1 (by simp)
  have o2 := hx6.at k2 (by simp)
  have lo1 := lt_of_at o1
  have lo2 := lt_of_at o2
  have hM6 := hM5.ext hx6 (by simp) (by simp)
  have hxg := hxf.trans hx6 (by simp)
  simp (disch := first | assumption | omega | (simp only [szR, cq_len, cq_all, cxC_len, cxC_all, inC_len, inC_all, rnC_len, rnC_all, ouC_len, ouC_all, vwC_len, vwC_all] <;> omega) | rfl | decide) only [gen0, gen1, gen2, rulesC, rulesX, rulesM, litR, bolR, Nat.reduceAdd, Nat.reduceLeDiff, numR, memR, valR, heapR, updR, intR, decR, extR, slR, segR, thenR, pnR, Int.reduceToNat, Int.reduceAdd, Int.reduceSub, Int.reduceLT, Int.reduceLE, Nat.reduceSub, Nat.reduceMul, Nat.reduceEqDiff, o1, o2, cx_over, cx_put, ou_over, ou_put, cx_sub, ou_sub]
  have hxo : Ext [b1, b1 + 1] w6 (World.upd (World.upd w6 b1 (cxC r.c)) (b1 + 1) (ouC 0 0 0 r.i)) := by (repeat first | assumption | exact Ext.refl | apply Ext.alloc | apply Ext.drew | (refine Ext.updN ?_ ?_; (focus first | omega | (simp only [szR] <;> omega))) | (refine Ext.updI ?_ ?_; (focus (simp; done))))
  have hxp := hxg.trans hxo (by simp; omega)
  generalize World.upd (World.upd w6 b1 (cxC r.c)) (b1 + 1) (ouC 0 0 0 r.i) = w7 at *
  exact hK g' w7 (hM6.ext hxo (by simp; omega) (by simp; omega)) hg hxp
end Go.Proofs.YtplfniijbeinmaaGreat
