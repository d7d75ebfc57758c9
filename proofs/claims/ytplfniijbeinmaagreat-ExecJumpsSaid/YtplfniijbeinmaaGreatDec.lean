/- The number in an instruction's word; conditions: those of each theorem. -/
import Derived.Test.YtplfniijbeinmaaGreatFixI2
namespace Go.Proofs.YtplfniijbeinmaaGreat
open Go.Fx
set_option maxRecDepth 100000
set_option linter.unusedSimpArgs false
set_option linter.unusedVariables false
/-- a piece: where it goes, how long, where it is. -/
def pcC (p : Nat × Nat × Nat) : List Value := [.int .i64 (p.1 : Nat), .int .i64 (p.2.1 : Nat), .int .i64 (p.2.2 : Nat)]
theorem pcC_len (p : Nat × Nat × Nat) : (pcC p).length = 3 := by simp [pcC]
theorem pcC_all (p : Nat × Nat × Nat) : (pcC p).all (fun v => v.oneCell') = true := by simp [pcC]; exact ⟨rfl, rfl, rfl⟩
theorem pcC_sub (p : Nat × Nat × Nat) : sub (pcC p) 0 3 = pcC p := rfl
theorem pcC_over (p : Nat × Nat × Nat) : splice [.int .i64 0, .int .i64 0, .int .i64 0] 0 (pcC p) = pcC p := rfl
theorem pcC_over2 (p : Nat × Nat × Nat) : pcC p ++ List.drop (pcC p).length [.int .i64 0, .int .i64 0, .int .i64 0] = pcC p := by simp [pcC]
def pcOk (p : Nat × Nat × Nat) : Prop := 0 < p.2.1 ∧ p.2.1 < 64 ∧ p.1 + p.2.1 ≤ 64 ∧ p.2.2 + p.2.1 ≤ 64
/-- a piece of a word, laid. -/
def pcN (W x : Nat) (p : Nat × Nat × Nat) : Nat := putN x (p.1, p.2.1, W / 2 ^ p.2.2 % 2 ^ p.2.1)
theorem shr_natX (a n : Nat) : ((a : Nat) : Int).fdiv (2 ^ n) = ((a / 2 ^ n : Nat) : Int) := by
  rw [Int.fdiv_eq_ediv_of_nonneg _ (Int.le_of_lt (Int.pow_pos (by omega)))]
  simp
theorem Sign_spec {w : World} {x b : Nat} (hb : 1 ≤ b ∧ b ≤ 64) (hx : x < 2 ^ (b - 1)) {K : Value → World → Prop} (hK : K (.int .u64 (x : Nat)) w) : callsK Tryz.prog 83 #[.int .u64 (x : Nat), .int .i64 (b : Nat)] w K := by
  apply F83_ok
  unfold F83
  have e1 : (64 : Int) - (b : Nat) = ((64 - b : Nat) : Int) := by omega
  have hlt : x * 2 ^ (64 - b) < 2 ^ 63 := by
    have h1 : x * 2 ^ (64 - b) < 2 ^ (b - 1) * 2 ^ (64 - b) := Nat.mul_lt_mul_of_pos_right hx (Nat.two_pow_pos _)
    rwa [← Nat.pow_add, show b - 1 + (64 - b) = 63 by omega] at h1
  have p63 : (2 : Nat) ^ 63 = 9223372036854775808 := by decide
  rw [p63] at hlt
  simp (disch := first | assumption | omega | (simp only [szR, rwC_len, rwC_all, rwsC_len, rwsC_all, ptC_len, ptC_all, pcC_len, pcC_all] <;> omega) | rfl | decide) only [gen0, gen1, gen2, rulesC, rulesX, litR, bolR, Nat.reduceAdd, Nat.reduceLeDiff, numR, memR, valR, heapR, updR, intR, decR, extR, slR, segR, thenR, pnR, Int.reduceToNat, Int.reduceAdd, Int.reduceSub, Int.reduceLT, Int.reduceLE, Nat.reduceSub, Nat.reduceMul, Nat.reduceEqDiff, joinBR, e1]
  have e2 : (x : Int) * 2 ^ (64 - b) = ((x * 2 ^ (64 - b) : Nat) : Int) := by simp
  have e3 : x * 2 ^ (64 - b) / 2 ^ (64 - b) = x := Nat.mul_div_cancel _ (Nat.two_pow_pos _)
  have hx2 : x ≤ x * 2 ^ (64 - b) := Nat.le_mul_of_pos_right _ (Nat.two_pow_pos _)
  rw [e2]
  clear e2
  have e4 : ((x * 2 ^ (64 - b) : Nat) : Int).fdiv (2 ^ (64 - b)) = (x : Int) := by rw [shr_natX, e3]
  generalize x * 2 ^ (64 - b) = y at *
  have w1 : IntKind.u64.wrap (y : Int) = y := wrap_u64 ⟨by omega, by omega⟩
  have w2 : IntKind.i64.wrap (y : Int) = y := wrap_i64 ⟨by omega, by omega⟩
  have w3 : IntKind.u64.wrap (x : Int) = x := wrap_u64 ⟨by omega, by omega⟩
  rw [w1, w2, e4, w3]
  exact hK
/-- a layout's cells. -/
def loC (v : Value) (bits : Nat) (sg : Bool) (z : Nat) : List Value := [v, .int .i64 (bits : Nat), .bool sg, .int .i64 (z : Nat)]
theorem read_spec {w : World} {v : Value} {ps : List (Nat × Nat × Nat)} {bits z W : Nat} {sg : Bool} (hv : RowsAt w v 3 (ps.map pcC)) (hp : ∀ p ∈ ps, pcOk p) (hW : W < 18446744073709551616) (hx : ∀ k p, ps[k]? = some p → (ps.take k).foldl (pcN W) 0 < 2 ^ p.1)
    (hb : 1 ≤ bits ∧ bits ≤ 64) (hlt : ps.foldl (pcN W) 0 < 2 ^ (bits - 1)) {K : Value → World → Prop} (hK : ∀ w', Ext [] w w' → K (.int .i64 (ps.foldl (pcN W) 0 : Nat)) w') :
    callsK Tryz.prog 69 #[.agg (loC v bits sg z).toArray, .int .u64 (W : Nat)] w K := by
  apply F69_ok
  unfold F69
  have hcap : ps.length ≤ maxLen := by
    obtain ⟨_, _, _, ⟨hc1, hc2⟩, _⟩ := id hv
    rw [List.length_map] at hc1
    omega
  simp only [maxLen] at hcap
  have hlen : (ps.map pcC).length = ps.length := by simp
  obtain ⟨a, cap, rfl⟩ := hv.len
  have hx0 : Ext [] w (w.alloc (.cells (loC (.slice a (ps.map pcC).length cap) bits sg z).toArray 106)) := by (repeat first | assumption | exact Ext.refl | apply Ext.alloc | apply Ext.drew | (refine Ext.updN ?_ ?_; (focus first | omega | (simp only [szR] <;> omega))) | (refine Ext.updI ?_ ?_; (focus (simp; done))))
  have c0 : (loC (.slice a (ps.map pcC).length cap) bits sg z)[0]? = some (.slice a (ps.map pcC).length cap) := rfl
  have c1 : (loC (.slice a (ps.map pcC).length cap) bits sg z)[1]? = some (.int .i64 (bits : Nat)) := rfl
  have c2 : (loC (.slice a (ps.map pcC).length cap) bits sg z)[2]? = some (.bool sg) := rfl
  have g0 : (w.alloc (.cells (loC (.slice a (ps.map pcC).length cap) bits sg z).toArray 106)).heap[w.heap.size]? = some (.cells (loC (.slice a (ps.map pcC).length cap) bits sg z).toArray 106 (0, 0)) := by simp (disch := first | assumption | omega | (simp only [szR, rwC_len, rwC_all, rwsC_len, rwsC_all, ptC_len, ptC_all, pcC_len, pcC_all] <;> omega) | rfl | decide) only [gen0, gen1, gen2, rulesC, rulesX, litR, bolR, Nat.reduceAdd, Nat.reduceLeDiff, numR, memR, valR, heapR, updR, intR, decR, extR, slR, segR, thenR, pnR, Int.reduceToNat, Int.reduceAdd, Int.reduceSub, Int.reduceLT, Int.reduceLE, Nat.reduceSub, Nat.reduceMul, Nat.reduceEqDiff]
  simp (disch := first | assumption | omega | (simp only [szR, rwC_len, rwC_all, rwsC_len, rwsC_all, ptC_len, ptC_all, pcC_len, pcC_all] <;> omega) | rfl | decide) only [gen0, gen1, gen2, rulesC, rulesX, litR, bolR, Nat.reduceAdd, Nat.reduceLeDiff, numR, memR, valR, heapR, updR, intR, decR, extR, slR, segR, thenR, pnR, Int.reduceToNat, Int.reduceAdd, Int.reduceSub, Int.reduceLT, Int.reduceLE, Nat.reduceSub, Nat.reduceMul, Nat.reduceEqDiff, c0]
  refine loopT.intro (fun st w' => ∃ (k : Nat), k ≤ ps.length ∧ st = [.int .u64 ((ps.take k).foldl (pcN W) 0 : Nat), .int .i64 (k : Nat)] ∧ w'.heap[w.heap.size]? = some (.cells (loC (.slice a (ps.map pcC).length cap) bits sg z).toArray 106 (0, 0)) ∧ Ext [] w w')
    (fun st _ => match st with
      | [_, .int _ z] => ps.length - z.toNat
      | _ => 0) ⟨0, Nat.zero_le _, rfl, g0, hx0⟩ ?_
  rintro st w' ⟨k, hk, rfl, h1, hx'⟩ _
  have l1 := lt_of_at h1
  by_cases h4 : k < ps.length
  · obtain ⟨p, hpk⟩ : ∃ p, ps[k]? = some p := ⟨_, List.getElem?_eq_getElem h4⟩
    have hrow : (ps.map pcC)[k]? = some (pcC p) := by rw [List.getElem?_map, hpk]; rfl
    obtain ⟨b0, o0, lb, E0, f0, hix, hb0, hfit, hblt, hbk, hsub, hget⟩ := RowsAt.ixR Tryz.underlying104 Tryz.sizeOf169 hv hrow
    have hb3 := hx'.at hb0 (by simp)
    have hs := hsub o0 rfl
    obtain ⟨q1, q2, q3, q4⟩ := hp p (List.mem_of_getElem? hpk)
    have hxk := hx k p hpk
    have htk : (ps.take (k + 1)).foldl (pcN W) 0 = pcN W ((ps.take k).foldl (pcN W) 0) p := by
      rw [List.take_add_one, hpk, List.foldl_append]
      rfl
    generalize (ps.take k).foldl (pcN W) 0 = x at *
    simp (disch := first | assumption | omega | (simp only [szR, rwC_len, rwC_all, rwsC_len, rwsC_all, ptC_len, ptC_all, pcC_len, pcC_all] <;> omega) | rfl | decide) only [gen0, gen1, gen2, rulesC, rulesX, litR, bolR, Nat.reduceAdd, Nat.reduceLeDiff, numR, memR, valR, heapR, updR, intR, decR, extR, slR, segR, thenR, pnR, Int.reduceToNat, Int.reduceAdd, Int.reduceSub, Int.reduceLT, Int.reduceLE, Nat.reduceSub, Nat.reduceMul, Nat.reduceEqDiff, hlen]
    refine joinL.intro fun J2 hJ2 => ?_
    simp (disch := first | assumption | omega | (simp only [szR, rwC_len, rwC_all, rwsC_len, rwsC_all, ptC_len, ptC_all, pcC_len, pcC_all] <;> omega) | rfl | decide) only [gen0, gen1, gen2, rulesC, rulesX, litR, bolR, Nat.reduceAdd, Nat.reduceLeDiff, numR, memR, valR, heapR, updR, intR, decR, extR, slR, segR, thenR, pnR, Int.reduceToNat, Int.reduceAdd, Int.reduceSub, Int.reduceLT, Int.reduceLE, Nat.reduceSub, Nat.reduceMul, Nat.reduceEqDiff, hix, hb3, hs, pcC_over, pcC_over2]
    have hx2 : Ext [] w' (w'.alloc (.cells (pcC p).toArray 169)).drew := by (repeat first | assumption | exact Ext.refl | apply Ext.alloc | apply Ext.drew | (refine Ext.updN ?_ ?_; (focus first | omega | (simp only [szR] <;> omega))) | (refine Ext.updI ?_ ?_; (focus (simp; done))))
    have g7 : (w'.alloc (.cells (pcC p).toArray 169)).drew.heap[w'.heap.size]? = some (.cells (pcC p).toArray 169 (0, 0)) := (by first | with_reducible rfl | assumption | (simp (disch := first | assumption | omega | (simp only [szR, rwC_len, rwC_all, rwsC_len, rwsC_all, ptC_len, ptC_all, pcC_len, pcC_all] <;> omega) | rfl | decide) only [gen0, gen1, gen2, rulesC, rulesX, litR, bolR, Nat.reduceAdd, Nat.reduceLeDiff, numR, memR, valR, heapR, updR, intR, decR, extR, slR, segR, thenR, pnR, Int.reduceToNat, Int.reduceAdd, Int.reduceSub, Int.reduceLT, Int.reduceLE, Nat.reduceSub, Nat.reduceMul, Nat.reduceEqDiff] <;> rfl))
    obtain ⟨b7, hb7⟩ : ∃ b7, b7 = w'.heap.size := ⟨_, rfl⟩
    rw [← hb7] at g7 ⊢
    generalize (w'.alloc (.cells (pcC p).toArray 169)).drew = w2 at *
    have r0 : (pcC p)[0]? = some (.int .i64 (p.1 : Nat)) := rfl
    have r1 : (pcC p)[1]? = some (.int .i64 (p.2.1 : Nat)) := rfl
    have r2 : (pcC p)[2]? = some (.int .i64 (p.2.2 : Nat)) := rfl
    refine relX.ext [] ?_
    refine postX.is (.int .u64 (x : Nat)) (fun v w3 hR _ => okX.is) ?_
    refine postX.is (.pointer (some ⟨b7, 0, none⟩)) (fun v w3 hR _ => by simp (disch := first | assumption | omega | (simp only [szR, rwC_len, rwC_all, rwsC_len, rwsC_all, ptC_len, ptC_all, pcC_len, pcC_all] <;> omega) | rfl | decide) only [gen0, gen1, gen2, rulesC, rulesX, litR, bolR, Nat.reduceAdd, Nat.reduceLeDiff, numR, memR, valR, heapR, updR, intR, decR, extR, slR, segR, thenR, pnR, Int.reduceToNat, Int.reduceAdd, Int.reduceSub, Int.reduceLT, Int.reduceLE, Nat.reduceSub, Nat.reduceMul, Nat.reduceEqDiff]; exact okX.is) ?_
    refine postX.is (.int .i64 (p.1 : Nat)) (fun v w3 hR hd => by
      obtain ⟨d1, -⟩ := hd
      have e := hR.at g7 (by simp)
      simp (disch := first | assumption | omega | (simp only [szR, rwC_len, rwC_all, rwsC_len, rwsC_all, ptC_len, ptC_all, pcC_len, pcC_all] <;> omega) | rfl | decide) only [gen0, gen1, gen2, rulesC, rulesX, litR, bolR, Nat.reduceAdd, Nat.reduceLeDiff, numR, memR, valR, heapR, updR, intR, decR, extR, slR, segR, thenR, pnR, Int.reduceToNat, Int.reduceAdd, Int.reduceSub, Int.reduceLT, Int.reduceLE, Nat.reduceSub, Nat.reduceMul, Nat.reduceEqDiff, d1, e, r0]
      exact okX.is) ?_
    refine postX.is (.pointer (some ⟨b7, 1, none⟩)) (fun v w3 hR _ => by simp (disch := first | assumption | omega | (simp only [szR, rwC_len, rwC_all, rwsC_len, rwsC_all, ptC_len, ptC_all, pcC_len, pcC_all] <;> omega) | rfl | decide) only [gen0, gen1, gen2, rulesC, rulesX, litR, bolR, Nat.reduceAdd, Nat.reduceLeDiff, numR, memR, valR, heapR, updR, intR, decR, extR, slR, segR, thenR, pnR, Int.reduceToNat, Int.reduceAdd, Int.reduceSub, Int.reduceLT, Int.reduceLE, Nat.reduceSub, Nat.reduceMul, Nat.reduceEqDiff]; exact okX.is) ?_
    refine postX.is (.int .i64 (p.2.1 : Nat)) (fun v w3 hR hd => by
      obtain ⟨d1, -⟩ := hd
      have e := hR.at g7 (by simp)
      simp (disch := first | assumption | omega | (simp only [szR, rwC_len, rwC_all, rwsC_len, rwsC_all, ptC_len, ptC_all, pcC_len, pcC_all] <;> omega) | rfl | decide) only [gen0, gen1, gen2, rulesC, rulesX, litR, bolR, Nat.reduceAdd, Nat.reduceLeDiff, numR, memR, valR, heapR, updR, intR, decR, extR, slR, segR, thenR, pnR, Int.reduceToNat, Int.reduceAdd, Int.reduceSub, Int.reduceLT, Int.reduceLE, Nat.reduceSub, Nat.reduceMul, Nat.reduceEqDiff, d1, e, r1]
      exact okX.is) ?_
    refine postX.is (.int .u64 (W : Nat)) (fun v w3 hR _ => okX.is) ?_
    refine postX.is (.pointer (some ⟨b7, 2, none⟩)) (fun v w3 hR _ => by simp (disch := first | assumption | omega | (simp only [szR, rwC_len, rwC_all, rwsC_len, rwsC_all, ptC_len, ptC_all, pcC_len, pcC_all] <;> omega) | rfl | decide) only [gen0, gen1, gen2, rulesC, rulesX, litR, bolR, Nat.reduceAdd, Nat.reduceLeDiff, numR, memR, valR, heapR, updR, intR, decR, extR, slR, segR, thenR, pnR, Int.reduceToNat, Int.reduceAdd, Int.reduceSub, Int.reduceLT, Int.reduceLE, Nat.reduceSub, Nat.reduceMul, Nat.reduceEqDiff]; exact okX.is) ?_
    refine postX.is (.int .i64 (p.2.2 : Nat)) (fun v w3 hR hd => by
      obtain ⟨d1, -⟩ := hd
      have e := hR.at g7 (by simp)
      simp (disch := first | assumption | omega | (simp only [szR, rwC_len, rwC_all, rwsC_len, rwsC_all, ptC_len, ptC_all, pcC_len, pcC_all] <;> omega) | rfl | decide) only [gen0, gen1, gen2, rulesC, rulesX, litR, bolR, Nat.reduceAdd, Nat.reduceLeDiff, numR, memR, valR, heapR, updR, intR, decR, extR, slR, segR, thenR, pnR, Int.reduceToNat, Int.reduceAdd, Int.reduceSub, Int.reduceLT, Int.reduceLE, Nat.reduceSub, Nat.reduceMul, Nat.reduceEqDiff, d1, e, r2]
      exact okX.is) ?_
    refine postX.is (.pointer (some ⟨b7, 1, none⟩)) (fun v w3 hR _ => by simp (disch := first | assumption | omega | (simp only [szR, rwC_len, rwC_all, rwsC_len, rwsC_all, ptC_len, ptC_all, pcC_len, pcC_all] <;> omega) | rfl | decide) only [gen0, gen1, gen2, rulesC, rulesX, litR, bolR, Nat.reduceAdd, Nat.reduceLeDiff, numR, memR, valR, heapR, updR, intR, decR, extR, slR, segR, thenR, pnR, Int.reduceToNat, Int.reduceAdd, Int.reduceSub, Int.reduceLT, Int.reduceLE, Nat.reduceSub, Nat.reduceMul, Nat.reduceEqDiff]; exact okX.is) ?_
    refine postX.is (.int .i64 (p.2.1 : Nat)) (fun v w3 hR hd => by
      obtain ⟨d1, -⟩ := hd
      have e := hR.at g7 (by simp)
      simp (disch := first | assumption | omega | (simp only [szR, rwC_len, rwC_all, rwsC_len, rwsC_all, ptC_len, ptC_all, pcC_len, pcC_all] <;> omega) | rfl | decide) only [gen0, gen1, gen2, rulesC, rulesX, litR, bolR, Nat.reduceAdd, Nat.reduceLeDiff, numR, memR, valR, heapR, updR, intR, decR, extR, slR, segR, thenR, pnR, Int.reduceToNat, Int.reduceAdd, Int.reduceSub, Int.reduceLT, Int.reduceLE, Nat.reduceSub, Nat.reduceMul, Nat.reduceEqDiff, d1, e, r1]
      exact okX.is) ?_
    obtain ⟨y, hy⟩ : ∃ y, y = W / 2 ^ p.2.2 % 2 ^ p.2.1 := ⟨_, rfl⟩
    have hyl : y < 18446744073709551616 := by
      have h5 : W / 2 ^ p.2.2 ≤ W := Nat.div_le_self _ _
      have h6 : W / 2 ^ p.2.2 % 2 ^ p.2.1 ≤ W / 2 ^ p.2.2 := Nat.mod_le _ _
      omega
    refine postX.is (.int .u64 (y : Nat)) (fun v w3 hR hd => by
      obtain ⟨d1, d2, d3, -⟩ := hd
      simp (disch := first | assumption | omega | (simp only [szR, rwC_len, rwC_all, rwsC_len, rwsC_all, ptC_len, ptC_all, pcC_len, pcC_all] <;> omega) | rfl | decide) only [gen0, gen1, gen2, rulesC, rulesX, litR, bolR, Nat.reduceAdd, Nat.reduceLeDiff, numR, memR, valR, heapR, updR, intR, decR, extR, slR, segR, thenR, pnR, Int.reduceToNat, Int.reduceAdd, Int.reduceSub, Int.reduceLT, Int.reduceLE, Nat.reduceSub, Nat.reduceMul, Nat.reduceEqDiff, d1, d2, d3]
      refine fGet_spec (by omega) (by omega) (by omega) hW fun w4 hx => okX.mk hx ?_
      rw [Int.toNat_natCast, Int.toNat_natCast, ← hy]) ?_
    intro v w3 hR hd _
    obtain ⟨d15, -, d17, -, d19, -, -, -, -, -, d25, -⟩ := hd
    rw [d15, d17, d19, d25]
    simp (disch := first | assumption | omega | (simp only [szR, rwC_len, rwC_all, rwsC_len, rwsC_all, ptC_len, ptC_all, pcC_len, pcC_all] <;> omega) | rfl | decide) only [gen0, gen1, gen2, rulesC, rulesX, litR, bolR, Nat.reduceAdd, Nat.reduceLeDiff, numR, memR, valR, heapR, updR, intR, decR, extR, slR, segR, thenR, pnR, Int.reduceToNat, Int.reduceAdd, Int.reduceSub, Int.reduceLT, Int.reduceLE, Nat.reduceSub, Nat.reduceMul, Nat.reduceEqDiff]
    refine fPut_spec (by omega) (by omega) (by omega) (by rw [Int.toNat_natCast]; exact hxk) hyl fun w4 hx4 => ?_
    have hN : x + y % 2 ^ ((p.2.1 : Nat) : Int).toNat * 2 ^ ((p.1 : Nat) : Int).toNat = pcN W x p := by
      rw [Int.toNat_natCast, Int.toNat_natCast, hy]
      rfl
    rw [hN]
    have hx5 := (hx2.trans hR (by simp)).trans hx4 (by simp)
    apply hJ2
    intro _
    simp (disch := first | assumption | omega | (simp only [szR, rwC_len, rwC_all, rwsC_len, rwsC_all, ptC_len, ptC_all, pcC_len, pcC_all] <;> omega) | rfl | decide) only [gen0, gen1, gen2, rulesC, rulesX, litR, bolR, Nat.reduceAdd, Nat.reduceLeDiff, numR, memR, valR, heapR, updR, intR, decR, extR, slR, segR, thenR, pnR, Int.reduceToNat, Int.reduceAdd, Int.reduceSub, Int.reduceLT, Int.reduceLE, Nat.reduceSub, Nat.reduceMul, Nat.reduceEqDiff]
    exact ⟨⟨k + 1, by omega, by rw [htk]; rfl, hx5.at h1 (by simp), hx'.trans hx5 (by simp)⟩, by first | omega | (simp <;> omega)⟩
  · obtain rfl : k = ps.length := by omega
    rw [List.take_length]
    generalize ps.foldl (pcN W) 0 = x at *
    have hx64 : x < 9223372036854775808 := by
      have p63 : (2 : Nat) ^ 63 = 9223372036854775808 := by decide
      have : (2 : Nat) ^ (bits - 1) ≤ 2 ^ 63 := Nat.pow_le_pow_right (by omega) (by omega)
      omega
    simp (disch := first | assumption | omega | (simp only [szR, rwC_len, rwC_all, rwsC_len, rwsC_all, ptC_len, ptC_all, pcC_len, pcC_all] <;> omega) | rfl | decide) only [gen0, gen1, gen2, rulesC, rulesX, litR, bolR, Nat.reduceAdd, Nat.reduceLeDiff, numR, memR, valR, heapR, updR, intR, decR, extR, slR, segR, thenR, pnR, Int.reduceToNat, Int.reduceAdd, Int.reduceSub, Int.reduceLT, Int.reduceLE, Nat.reduceSub, Nat.reduceMul, Nat.reduceEqDiff, hlen]
    refine joinL.intro fun J5 hJ5 => ?_
    cases sg with
    | false =>
      simp (disch := first | assumption | omega | (simp only [szR, rwC_len, rwC_all, rwsC_len, rwsC_all, ptC_len, ptC_all, pcC_len, pcC_all] <;> omega) | rfl | decide) only [gen0, gen1, gen2, rulesC, rulesX, litR, bolR, Nat.reduceAdd, Nat.reduceLeDiff, numR, memR, valR, heapR, updR, intR, decR, extR, slR, segR, thenR, pnR, Int.reduceToNat, Int.reduceAdd, Int.reduceSub, Int.reduceLT, Int.reduceLE, Nat.reduceSub, Nat.reduceMul, Nat.reduceEqDiff, h1, c2]
      apply hJ5
      intro _
      simp (disch := first | assumption | omega | (simp only [szR, rwC_len, rwC_all, rwsC_len, rwsC_all, ptC_len, ptC_all, pcC_len, pcC_all] <;> omega) | rfl | decide) only [gen0, gen1, gen2, rulesC, rulesX, litR, bolR, Nat.reduceAdd, Nat.reduceLeDiff, numR, memR, valR, heapR, updR, intR, decR, extR, slR, segR, thenR, pnR, Int.reduceToNat, Int.reduceAdd, Int.reduceSub, Int.reduceLT, Int.reduceLE, Nat.reduceSub, Nat.reduceMul, Nat.reduceEqDiff]
      exact hK _ hx'
    | true =>
      simp (disch := first | assumption | omega | (simp only [szR, rwC_len, rwC_all, rwsC_len, rwsC_all, ptC_len, ptC_all, pcC_len, pcC_all] <;> omega) | rfl | decide) only [gen0, gen1, gen2, rulesC, rulesX, litR, bolR, Nat.reduceAdd, Nat.reduceLeDiff, numR, memR, valR, heapR, updR, intR, decR, extR, slR, segR, thenR, pnR, Int.reduceToNat, Int.reduceAdd, Int.reduceSub, Int.reduceLT, Int.reduceLE, Nat.reduceSub, Nat.reduceMul, Nat.reduceEqDiff, h1, c1, c2]
      refine Sign_spec hb hlt ?_
      apply hJ5
      intro _
      simp (disch := first | assumption | omega | (simp only [szR, rwC_len, rwC_all, rwsC_len, rwsC_all, ptC_len, ptC_all, pcC_len, pcC_all] <;> omega) | rfl | decide) only [gen0, gen1, gen2, rulesC, rulesX, litR, bolR, Nat.reduceAdd, Nat.reduceLeDiff, numR, memR, valR, heapR, updR, intR, decR, extR, slR, segR, thenR, pnR, Int.reduceToNat, Int.reduceAdd, Int.reduceSub, Int.reduceLT, Int.reduceLE, Nat.reduceSub, Nat.reduceMul, Nat.reduceEqDiff]
      exact hK _ hx'
end Go.Proofs.YtplfniijbeinmaaGreat
