/- A number laid into a word; conditions: those of each theorem. -/
import Derived.Test.YtplfniijbeinmaaGreatEnc1
namespace Go.Proofs.YtplfniijbeinmaaGreat
open Go.Fx
set_option maxRecDepth 100000
set_option linter.unusedSimpArgs false
set_option linter.unusedVariables false
theorem lo_1 (v : Value) (b : Nat) (s : Bool) (z : Nat) : (loC v b s z)[1]? = some (.int .i64 (b : Nat)) := rfl
theorem lo_0 (v : Value) (b : Nat) (s : Bool) (z : Nat) : (loC v b s z)[0]? = some v := rfl
theorem lo_2 (v : Value) (b : Nat) (s : Bool) (z : Nat) : (loC v b s z)[2]? = some (.bool s) := rfl
theorem lo_3 (v : Value) (b : Nat) (s : Bool) (z : Nat) : (loC v b s z)[3]? = some (.int .i64 (z : Nat)) := rfl
theorem mask01_spec {w : World} {z : Nat} (hz : z = 0 ∨ z = 1) {K : Value → World → Prop} (hK : K (.int .u64 (z : Nat)) w) : callsK Tryz.prog 81 #[.int .i64 (z : Nat)] w K := by
  rcases hz with rfl | rfl
  · apply F81_ok
    unfold F81
    simp (disch := first | assumption | omega | (simp only [szR, rwC_len, rwC_all, inC_len, inC_all, pcC_len, pcC_all, loC_len, loC_all] <;> omega) | rfl | decide) only [gen0, gen1, gen2, rulesC, rulesX, rulesM, rulesJ, litR, bolR, Nat.reduceAdd, Nat.reduceLeDiff, numR, memR, valR, heapR, updR, intR, decR, extR, slR, segR, thenR, pnR, Int.reduceToNat, Int.reduceAdd, Int.reduceSub, Int.reduceLT, Int.reduceLE, Nat.reduceSub, Nat.reduceMul, Nat.reduceEqDiff]
    exact hK
  · exact fMask_spec (k := 1) (by omega) hK
theorem fits_spec {w : World} {a : Option Addr} {n c bits z x : Nat} (hn : 0 < n) (hb : 1 ≤ bits ∧ bits ≤ 64) (hx : x < 2 ^ (bits - 1)) (hz : z = 0 ∨ z = 1) (hxz : bitI .and .u64 (x : Nat) (z : Nat) = 0) {K : Value → World → Prop} (hK : ∀ w', Ext [] w w' → K (.bool true) w') :
    callsK Tryz.prog 36 #[.agg (loC (.slice a n c) bits true z).toArray, .int .i64 (x : Nat)] w K := by
  have hx63 : x < 9223372036854775808 := by
    have : (2 : Nat) ^ (bits - 1) ≤ 2 ^ 63 := Nat.pow_le_pow_right (by omega) (by omega)
    have : (2 : Nat) ^ 63 = 9223372036854775808 := by decide
    omega
  apply F36_ok
  unfold F36
  have e0 := lo_0 (.slice a n c) bits true z
  have e1 := lo_1 (.slice a n c) bits true z
  have e2 := lo_2 (.slice a n c) bits true z
  have e3 := lo_3 (.slice a n c) bits true z
  have ls : sub (loC (.slice a n c) bits true z) 0 4 = loC (.slice a n c) bits true z := rfl
  have hne : ¬ ((n : Nat) : Int) = 0 := by omega
  simp (disch := first | assumption | omega | (simp only [szR, rwC_len, rwC_all, inC_len, inC_all, pcC_len, pcC_all, loC_len, loC_all] <;> omega) | rfl | decide) only [gen0, gen1, gen2, rulesC, rulesX, rulesM, rulesJ, litR, bolR, Nat.reduceAdd, Nat.reduceLeDiff, numR, memR, valR, heapR, updR, intR, decR, extR, slR, segR, thenR, pnR, Int.reduceToNat, Int.reduceAdd, Int.reduceSub, Int.reduceLT, Int.reduceLE, Nat.reduceSub, Nat.reduceMul, Nat.reduceEqDiff, joinBR, e0, e1, e2, e3, ls]
  refine fitsS_spec hb hx ?_
  simp (disch := first | assumption | omega | (simp only [szR, rwC_len, rwC_all, inC_len, inC_all, pcC_len, pcC_all, loC_len, loC_all] <;> omega) | rfl | decide) only [gen0, gen1, gen2, rulesC, rulesX, rulesM, rulesJ, litR, bolR, Nat.reduceAdd, Nat.reduceLeDiff, numR, memR, valR, heapR, updR, intR, decR, extR, slR, segR, thenR, pnR, Int.reduceToNat, Int.reduceAdd, Int.reduceSub, Int.reduceLT, Int.reduceLE, Nat.reduceSub, Nat.reduceMul, Nat.reduceEqDiff, joinBR, e3]
  refine mask01_spec hz ?_
  simp (disch := first | assumption | omega | (simp only [szR, rwC_len, rwC_all, inC_len, inC_all, pcC_len, pcC_all, loC_len, loC_all] <;> omega) | rfl | decide) only [gen0, gen1, gen2, rulesC, rulesX, rulesM, rulesJ, litR, bolR, Nat.reduceAdd, Nat.reduceLeDiff, numR, memR, valR, heapR, updR, intR, decR, extR, slR, segR, thenR, pnR, Int.reduceToNat, Int.reduceAdd, Int.reduceSub, Int.reduceLT, Int.reduceLE, Nat.reduceSub, Nat.reduceMul, Nat.reduceEqDiff, joinBR, hxz]
  exact hK _ (by (repeat first | assumption | exact Ext.refl | apply Ext.alloc | apply Ext.drew | (refine Ext.updN ?_ ?_; (focus first | omega | (simp only [szR] <;> omega))) | (refine Ext.updI ?_ ?_; (focus (simp; done)))))
def layN (x W : Nat) (p : Nat × Nat × Nat) : Nat := W + x / 2 ^ p.1 % 2 ^ p.2.1 * 2 ^ p.2.2
theorem lay_spec {w : World} {v : Value} {ps : List (Nat × Nat × Nat)} {bits z W x : Nat} {sg : Bool} (hv : RowsAt w v 3 (ps.map pcC)) (hp : ∀ p ∈ ps, pcOk p) (hx : x < 9223372036854775808)
    (hc : ∀ k p, ps[k]? = some p → (ps.take k).foldl (layN x) W < 18446744073709551616 ∧ (ps.take k).foldl (layN x) W / 2 ^ p.2.2 % 2 ^ p.2.1 = 0)
    {K : Value → World → Prop} (hK : ∀ w', Ext [] w w' → K (.int .u64 (ps.foldl (layN x) W : Nat)) w') :
    callsK Tryz.prog 39 #[.agg (loC v bits sg z).toArray, .int .u64 (W : Nat), .int .i64 (x : Nat)] w K := by
  apply F39_ok
  unfold F39
  have hcap : ps.length ≤ maxLen := by
    obtain ⟨_, _, _, ⟨hc1, hc2⟩, _⟩ := id hv
    rw [List.length_map] at hc1
    omega
  simp only [maxLen] at hcap
  have hlen : (ps.map pcC).length = ps.length := by simp
  obtain ⟨a, cap, rfl⟩ := hv.len
  have hx0 : Ext [] w (w.alloc (.cells (loC (.slice a (ps.map pcC).length cap) bits sg z).toArray 106)) := by (repeat first | assumption | exact Ext.refl | apply Ext.alloc | apply Ext.drew | (refine Ext.updN ?_ ?_; (focus first | omega | (simp only [szR] <;> omega))) | (refine Ext.updI ?_ ?_; (focus (simp; done))))
  have c0 := lo_0 (.slice a (ps.map pcC).length cap) bits sg z
  have ls : sub (loC (.slice a (ps.map pcC).length cap) bits sg z) 0 4 = loC (.slice a (ps.map pcC).length cap) bits sg z := rfl
  simp (disch := first | assumption | omega | (simp only [szR, rwC_len, rwC_all, inC_len, inC_all, pcC_len, pcC_all, loC_len, loC_all] <;> omega) | rfl | decide) only [gen0, gen1, gen2, rulesC, rulesX, rulesM, rulesJ, litR, bolR, Nat.reduceAdd, Nat.reduceLeDiff, numR, memR, valR, heapR, updR, intR, decR, extR, slR, segR, thenR, pnR, Int.reduceToNat, Int.reduceAdd, Int.reduceSub, Int.reduceLT, Int.reduceLE, Nat.reduceSub, Nat.reduceMul, Nat.reduceEqDiff, c0, ls]
  refine loopT.intro (fun st w' => ∃ (k : Nat), k ≤ ps.length ∧ st = [.int .u64 ((ps.take k).foldl (layN x) W : Nat), .int .i64 (k : Nat)] ∧ Ext [] w w')
    (fun st _ => match st with
      | [_, .int _ z] => ps.length - z.toNat
      | _ => 0) ⟨0, Nat.zero_le _, rfl, hx0⟩ ?_
  rintro st w' ⟨k, hk, rfl, hx'⟩ _
  by_cases h4 : k < ps.length
  · obtain ⟨p, hpk⟩ : ∃ p, ps[k]? = some p := ⟨_, List.getElem?_eq_getElem h4⟩
    have hrow : (ps.map pcC)[k]? = some (pcC p) := by rw [List.getElem?_map, hpk]; rfl
    obtain ⟨b0, o0, lb, E0, f0, hix, hb0, hfit, hblt, hbk, hsub, hget⟩ := RowsAt.ixR (P := Tryz.prog) (t := 104) Tryz.underlying104 Tryz.sizeOf169 hv hrow
    have hb3 := hx'.at hb0 (by simp)
    have hs := hsub o0 rfl
    obtain ⟨hW, hz⟩ := hc k p hpk
    obtain ⟨p1, p2, p3, p4⟩ := hp p (List.mem_of_getElem? hpk)
    have hnext : (ps.take (k + 1)).foldl (layN x) W = layN x ((ps.take k).foldl (layN x) W) p := by
      rw [List.take_add_one, hpk, List.foldl_append]
      rfl
    obtain ⟨W1, hW1⟩ : ∃ W1, W1 = (ps.take k).foldl (layN x) W := ⟨_, rfl⟩
    rw [← hW1] at hW hz hnext ⊢
    have q0 : (pcC p)[0]? = some (.int .i64 (p.1 : Nat)) := rfl
    have q1 : (pcC p)[1]? = some (.int .i64 (p.2.1 : Nat)) := rfl
    have q2 : (pcC p)[2]? = some (.int .i64 (p.2.2 : Nat)) := rfl
    have hklt : decide ((k : Int) < ((ps.map pcC).length : Nat)) = true := by rw [hlen]; exact decide_eq_true (by omega)
    simp (disch := first | assumption | omega | (simp only [szR, rwC_len, rwC_all, inC_len, inC_all, pcC_len, pcC_all, loC_len, loC_all] <;> omega) | rfl | decide) only [gen0, gen1, gen2, rulesC, rulesX, rulesM, rulesJ, litR, bolR, Nat.reduceAdd, Nat.reduceLeDiff, numR, memR, valR, heapR, updR, intR, decR, extR, slR, segR, thenR, pnR, Int.reduceToNat, Int.reduceAdd, Int.reduceSub, Int.reduceLT, Int.reduceLE, Nat.reduceSub, Nat.reduceMul, Nat.reduceEqDiff, hlen]
    refine joinL.intro fun J2 hJ2 => ?_
    simp (disch := first | assumption | omega | (simp only [szR, rwC_len, rwC_all, inC_len, inC_all, pcC_len, pcC_all, loC_len, loC_all] <;> omega) | rfl | decide) only [gen0, gen1, gen2, rulesC, rulesX, rulesM, rulesJ, litR, bolR, Nat.reduceAdd, Nat.reduceLeDiff, numR, memR, valR, heapR, updR, intR, decR, extR, slR, segR, thenR, pnR, Int.reduceToNat, Int.reduceAdd, Int.reduceSub, Int.reduceLT, Int.reduceLE, Nat.reduceSub, Nat.reduceMul, Nat.reduceEqDiff, hix, hb3, hs, pcC_over, pcC_over2]
    have hx2 : Ext [] w' (w'.alloc (.cells (pcC p).toArray 169)).drew := by (repeat first | assumption | exact Ext.refl | apply Ext.alloc | apply Ext.drew | (refine Ext.updN ?_ ?_; (focus first | omega | (simp only [szR] <;> omega))) | (refine Ext.updI ?_ ?_; (focus (simp; done))))
    have g7 : (w'.alloc (.cells (pcC p).toArray 169)).drew.heap[w'.heap.size]? = some (.cells (pcC p).toArray 169 (0, 0)) := alloc_at rfl
    generalize w'.heap.size = b7 at *
    generalize (w'.alloc (.cells (pcC p).toArray 169)).drew = w2 at *
    have hqp := Nat.mod_lt (x / 2 ^ p.1) (Nat.two_pow_pos p.2.1)
    have hp64 : (2 : Nat) ^ p.2.1 ≤ 18446744073709551616 := Nat.le_trans (Nat.pow_le_pow_right (by omega) (show p.2.1 ≤ 64 by omega)) (by decide)
    refine relX.ext [] ?_
    (repeat (apply postX.is; (focus (intro v w2 hR hd; have e0 := hR.at g7 (by simp); (try simp (disch := first | assumption | omega | (simp only [szR, rwC_len, rwC_all, inC_len, inC_all, pcC_len, pcC_all, loC_len, loC_all] <;> omega) | rfl | decide) only [gen0, gen1, gen2, rulesC, rulesX, rulesM, rulesJ, litR, bolR, Nat.reduceAdd, Nat.reduceLeDiff, numR, memR, valR, heapR, updR, intR, decR, extR, slR, segR, thenR, pnR, Int.reduceToNat, Int.reduceAdd, Int.reduceSub, Int.reduceLT, Int.reduceLE, Nat.reduceSub, Nat.reduceMul, Nat.reduceEqDiff, hd, e0, q0, q1, q2, List.getD_cons_zero, List.getD_cons_succ]); exact okX.is))))
    apply postX.is
    · intro v w3 hR hd
      simp (disch := first | assumption | omega | (simp only [szR, rwC_len, rwC_all, inC_len, inC_all, pcC_len, pcC_all, loC_len, loC_all] <;> omega) | rfl | decide) only [gen0, gen1, gen2, rulesC, rulesX, rulesM, rulesJ, litR, bolR, Nat.reduceAdd, Nat.reduceLeDiff, numR, memR, valR, heapR, updR, intR, decR, extR, slR, segR, thenR, pnR, Int.reduceToNat, Int.reduceAdd, Int.reduceSub, Int.reduceLT, Int.reduceLE, Nat.reduceSub, Nat.reduceMul, Nat.reduceEqDiff, hd]
      exact fGet_spec (by omega) (by omega) (by omega) (by omega) fun w4 hx4 => okX.mk hx4 rfl
    intro v w3 hR hd _
    simp (disch := first | assumption | omega | (simp only [szR, rwC_len, rwC_all, inC_len, inC_all, pcC_len, pcC_all, loC_len, loC_all] <;> omega) | rfl | decide) only [gen0, gen1, gen2, rulesC, rulesX, rulesM, rulesJ, litR, bolR, Nat.reduceAdd, Nat.reduceLeDiff, numR, memR, valR, heapR, updR, intR, decR, extR, slR, segR, thenR, pnR, Int.reduceToNat, Int.reduceAdd, Int.reduceSub, Int.reduceLT, Int.reduceLE, Nat.reduceSub, Nat.reduceMul, Nat.reduceEqDiff, hd, Int.toNat_natCast]
    refine fPutZ_spec (by omega) (by omega) (by omega) hW ?_ (by omega) fun w4 hx4 => ?_
    · simpa using hz
    apply hJ2
    intro _
    simp (disch := first | assumption | omega | (simp only [szR, rwC_len, rwC_all, inC_len, inC_all, pcC_len, pcC_all, loC_len, loC_all] <;> omega) | rfl | decide) only [gen0, gen1, gen2, rulesC, rulesX, rulesM, rulesJ, litR, bolR, Nat.reduceAdd, Nat.reduceLeDiff, numR, memR, valR, heapR, updR, intR, decR, extR, slR, segR, thenR, pnR, Int.reduceToNat, Int.reduceAdd, Int.reduceSub, Int.reduceLT, Int.reduceLE, Nat.reduceSub, Nat.reduceMul, Nat.reduceEqDiff, List.getD_cons_zero, List.getD_cons_succ]
    refine ⟨⟨k + 1, by omega, ?_, ((hx'.trans hx2 (by simp)).trans hR (by simp)).trans hx4 (by simp)⟩, by first | omega | (simp <;> omega)⟩
    rw [hnext]
    unfold layN
    simp
  · obtain rfl : k = ps.length := by omega
    rw [List.take_length]
    simp (disch := first | assumption | omega | (simp only [szR, rwC_len, rwC_all, inC_len, inC_all, pcC_len, pcC_all, loC_len, loC_all] <;> omega) | rfl | decide) only [gen0, gen1, gen2, rulesC, rulesX, rulesM, rulesJ, litR, bolR, Nat.reduceAdd, Nat.reduceLeDiff, numR, memR, valR, heapR, updR, intR, decR, extR, slR, segR, thenR, pnR, Int.reduceToNat, Int.reduceAdd, Int.reduceSub, Int.reduceLT, Int.reduceLE, Nat.reduceSub, Nat.reduceMul, Nat.reduceEqDiff, hlen, List.getD_cons_zero, List.getD_cons_succ]
    exact hK _ hx'
end Go.Proofs.YtplfniijbeinmaaGreat
