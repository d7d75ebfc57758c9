/- The number in an instruction: whether it fits, laid, and read; conditions: those of each theorem. -/
import Derived.Test.YtobkjnmdbkieeaaDoorAI2
namespace Go.Proofs.YtobkjnmdbkieeaaDoor
open Go.Fx
set_option maxRecDepth 100000
set_option linter.unusedSimpArgs false
set_option linter.unusedVariables false
theorem lo_1 (v : Value) (b : Nat) (s : Bool) (z : Nat) : (loC v b s z)[1]? = some (.int .i64 (b : Nat)) := rfl
theorem lo_0 (v : Value) (b : Nat) (s : Bool) (z : Nat) : (loC v b s z)[0]? = some v := rfl
theorem lo_2 (v : Value) (b : Nat) (s : Bool) (z : Nat) : (loC v b s z)[2]? = some (.bool s) := rfl
theorem lo_3 (v : Value) (b : Nat) (s : Bool) (z : Nat) : (loC v b s z)[3]? = some (.int .i64 (z : Nat)) := rfl
theorem maskG_spec {w : World} {z : Nat} (hz : z < 64) {K : Value → World → Prop} (hK : K (.int .u64 (2 ^ z - 1 : Nat)) w) : callsK Tryd.prog 39 #[.int .i64 (z : Nat)] w K := by
  rcases Nat.eq_zero_or_pos z with rfl | h
  · apply F39_ok
    unfold F39
    simp (disch := first | assumption | omega | (simp only [szR, rwC_len, rwC_all, pcC_len, pcC_all, loC_len, loC_all] <;> omega) | rfl | decide) only [gen0, gen1, gen2, rulesC, rulesX, litR, bolR, Nat.reduceAdd, Nat.reduceLeDiff, numR, memR, valR, heapR, updR, intR, decR, extR, slR, segR, thenR, pnR, Int.reduceToNat, Int.reduceAdd, Int.reduceSub, Int.reduceLT, Int.reduceLE, Nat.reduceSub, Nat.reduceMul, Nat.reduceEqDiff]
    exact hK
  · exact fMask_spec (k := (z : Nat)) (by omega) hK
def fitsL (n bits : Nat) (sg : Bool) (z : Nat) (x : Int) : Bool := n == 0 || ((if sg then fitsS x bits else fitsU x bits) && decide (x % 2 ^ z = 0))
theorem un_mod {z : Nat} (hz : z < 64) (x : Int) : decide (((un x % 2 ^ z : Nat) : Int) = 0) = decide (x % 2 ^ z = 0) := by
  apply decide_eq_decide.2
  have e : (18446744073709551616 : Int) = 2 ^ z * 2 ^ (64 - z) := by
    rw [← Int.pow_add, show z + (64 - z) = 64 by omega]
    decide
  have hu : ((un x : Nat) : Int) = x % 18446744073709551616 := by unfold un; omega
  have h2 : ((2 ^ z : Nat) : Int) = 2 ^ z := by simp
  rw [Int.natCast_emod, hu, h2, e, Int.emod_emod_of_dvd _ (Int.dvd_mul_right _ _)]
theorem fitsG_spec {w : World} {a : Option Addr} {n c bits z : Nat} {sg : Bool} {x : Int} (hn : n ≤ 4) (hb : 0 < n → 1 ≤ bits ∧ bits ≤ 63) (hz : z < 64) (hx : -9223372036854775808 ≤ x ∧ x < 9223372036854775808) {K : Value → World → Prop} (hK : ∀ w', Ext [] w w' → K (.bool (fitsL n bits sg z x)) w') :
    callsK Tryd.prog 14 #[.agg (loC (.slice a n c) bits sg z).toArray, .int .i64 x] w K := by
  apply F14_ok
  unfold F14
  have e0 := lo_0 (.slice a n c) bits sg z
  have e1 := lo_1 (.slice a n c) bits sg z
  have e2 := lo_2 (.slice a n c) bits sg z
  have e3 := lo_3 (.slice a n c) bits sg z
  have ls : sub (loC (.slice a n c) bits sg z) 0 4 = loC (.slice a n c) bits sg z := rfl
  rcases Nat.eq_zero_or_pos n with rfl | hn0
  · have hf : fitsL 0 bits sg z x = true := rfl
    rw [hf] at hK
    simp (disch := first | assumption | omega | (simp only [szR, rwC_len, rwC_all, pcC_len, pcC_all, loC_len, loC_all] <;> omega) | rfl | decide) only [gen0, gen1, gen2, rulesC, rulesX, litR, bolR, Nat.reduceAdd, Nat.reduceLeDiff, numR, memR, valR, heapR, updR, intR, decR, extR, slR, segR, thenR, pnR, Int.reduceToNat, Int.reduceAdd, Int.reduceSub, Int.reduceLT, Int.reduceLE, Nat.reduceSub, Nat.reduceMul, Nat.reduceEqDiff, joinBR, e0, e1, e2, e3, ls]
    exact hK _ (by (repeat first | assumption | exact Ext.refl | apply Ext.alloc | apply Ext.drew | (refine Ext.updN ?_ ?_; (focus first | omega | (simp only [szR] <;> omega))) | (refine Ext.updI ?_ ?_; (focus (simp; done)))))
  · obtain ⟨hb1, hb2⟩ := hb hn0
    have hne : ¬ ((n : Nat) : Int) = 0 := by omega
    have hf : fitsL n bits sg z x = ((if sg then fitsS x bits else fitsU x bits) && decide (x % 2 ^ z = 0)) := by
      unfold fitsL
      have : (n == 0) = false := by simp; omega
      rw [this, Bool.false_or]
    rw [hf] at hK
    have hw := wrap_un x
    have hl := un_lt x
    have hp := pow64 (i := z) hz
    have hp0 := Nat.two_pow_pos z
    have hmod := Nat.and_two_pow_sub_one_eq_mod (un x) z
    have hand := and_u64 (a := ((un x : Nat) : Int)) (b := ((2 ^ z - 1 : Nat) : Int)) (by omega) (by omega)
    simp only [Int.toNat_natCast, hmod] at hand
    have hm := un_mod hz x
    have hcont : ∀ f : Bool, (if sg then fitsS x bits else fitsU x bits) = f → ∀ w', Ext [] w w' → K (.bool (f && decide (x % 2 ^ z = 0))) w' := fun f h w' hx' => by
      rw [h] at hK
      exact hK w' hx'
    clear hK
    have hgo : ∀ w', Ext [] w w' → (∀ K : Value → World → Prop, (∀ f : Bool, (if sg then fitsS x bits else fitsU x bits) = f → K (.bool f) w') → callsK Tryd.prog 18 #[.int .i64 x, .int .i64 (bits : Nat), .bool sg] w' K) := by
      intro w' hx' K hK
      cases sg with
      | true => exact FitsS_spec ⟨hb1, by omega⟩ hx (hK _ rfl)
      | false => exact FitsU_spec ⟨hb1, hb2⟩ hx (hK _ rfl)
    simp (disch := first | assumption | omega | (simp only [szR, rwC_len, rwC_all, pcC_len, pcC_all, loC_len, loC_all] <;> omega) | rfl | decide) only [gen0, gen1, gen2, rulesC, rulesX, litR, bolR, Nat.reduceAdd, Nat.reduceLeDiff, numR, memR, valR, heapR, updR, intR, decR, extR, slR, segR, thenR, pnR, Int.reduceToNat, Int.reduceAdd, Int.reduceSub, Int.reduceLT, Int.reduceLE, Nat.reduceSub, Nat.reduceMul, Nat.reduceEqDiff, joinBR, e0, e1, e2, e3, ls]
    refine hgo _ (by (repeat first | assumption | exact Ext.refl | apply Ext.alloc | apply Ext.drew | (refine Ext.updN ?_ ?_; (focus first | omega | (simp only [szR] <;> omega))) | (refine Ext.updI ?_ ?_; (focus (simp; done))))) _ fun f hfe => ?_
    have hc2 := hcont f hfe
    clear hcont hgo
    cases f with
    | false =>
      simp (disch := first | assumption | omega | (simp only [szR, rwC_len, rwC_all, pcC_len, pcC_all, loC_len, loC_all] <;> omega) | rfl | decide) only [gen0, gen1, gen2, rulesC, rulesX, litR, bolR, Nat.reduceAdd, Nat.reduceLeDiff, numR, memR, valR, heapR, updR, intR, decR, extR, slR, segR, thenR, pnR, Int.reduceToNat, Int.reduceAdd, Int.reduceSub, Int.reduceLT, Int.reduceLE, Nat.reduceSub, Nat.reduceMul, Nat.reduceEqDiff, joinBR]
      exact hc2 _ (by (repeat first | assumption | exact Ext.refl | apply Ext.alloc | apply Ext.drew | (refine Ext.updN ?_ ?_; (focus first | omega | (simp only [szR] <;> omega))) | (refine Ext.updI ?_ ?_; (focus (simp; done)))))
    | true =>
      simp (disch := first | assumption | omega | (simp only [szR, rwC_len, rwC_all, pcC_len, pcC_all, loC_len, loC_all] <;> omega) | rfl | decide) only [gen0, gen1, gen2, rulesC, rulesX, litR, bolR, Nat.reduceAdd, Nat.reduceLeDiff, numR, memR, valR, heapR, updR, intR, decR, extR, slR, segR, thenR, pnR, Int.reduceToNat, Int.reduceAdd, Int.reduceSub, Int.reduceLT, Int.reduceLE, Nat.reduceSub, Nat.reduceMul, Nat.reduceEqDiff, joinBR, e3]
      refine maskG_spec hz ?_
      simp (disch := first | assumption | omega | (simp only [szR, rwC_len, rwC_all, pcC_len, pcC_all, loC_len, loC_all] <;> omega) | rfl | decide) only [gen0, gen1, gen2, rulesC, rulesX, litR, bolR, Nat.reduceAdd, Nat.reduceLeDiff, numR, memR, valR, heapR, updR, intR, decR, extR, slR, segR, thenR, pnR, Int.reduceToNat, Int.reduceAdd, Int.reduceSub, Int.reduceLT, Int.reduceLE, Nat.reduceSub, Nat.reduceMul, Nat.reduceEqDiff, joinBR, hw]
      rw [hand, hm]
      exact hc2 _ (by (repeat first | assumption | exact Ext.refl | apply Ext.alloc | apply Ext.drew | (refine Ext.updN ?_ ?_; (focus first | omega | (simp only [szR] <;> omega))) | (refine Ext.updI ?_ ?_; (focus (simp; done)))))
def layB (x : Int) (W : Nat) (p : Nat × Nat × Nat) : Nat := putB W p.2.2 p.2.1 (un x / 2 ^ p.1 % 2 ^ p.2.1)
theorem layB_lt {x : Int} {W : Nat} {ps : List (Nat × Nat × Nat)} (hp : ∀ p ∈ ps, pcOk p) (hW : W < 18446744073709551616) : ps.foldl (layB x) W < 18446744073709551616 := by
  induction ps generalizing W with
  | nil => exact hW
  | cons p ps ih =>
    rw [List.foldl_cons]
    obtain ⟨p1, p2, p3, p4⟩ := hp p (by simp)
    exact ih (fun q hq => hp q (by simp [hq])) (putB_lt hW (by omega))
theorem layG_spec {w : World} {v : Value} {ps : List (Nat × Nat × Nat)} {bits z W : Nat} {x : Int} {sg : Bool} (hv : RowsAt w v 3 (ps.map pcC)) (hp : ∀ p ∈ ps, pcOk p) (hW0 : W < 18446744073709551616)
    {K : Value → World → Prop} (hK : ∀ w', Ext [] w w' → K (.int .u64 (ps.foldl (layB x) W : Nat)) w') :
    callsK Tryd.prog 17 #[.agg (loC v bits sg z).toArray, .int .u64 (W : Nat), .int .i64 x] w K := by
  apply F17_ok
  unfold F17
  have hcap : ps.length ≤ maxLen := by
    obtain ⟨_, _, _, ⟨hc1, hc2⟩, _⟩ := id hv
    rw [List.length_map] at hc1
    omega
  simp only [maxLen] at hcap
  have hlen : (ps.map pcC).length = ps.length := by simp
  obtain ⟨a, cap, rfl⟩ := hv.len
  have hx0 : Ext [] w (w.alloc (.cells (loC (.slice a (ps.map pcC).length cap) bits sg z).toArray 49)) := by (repeat first | assumption | exact Ext.refl | apply Ext.alloc | apply Ext.drew | (refine Ext.updN ?_ ?_; (focus first | omega | (simp only [szR] <;> omega))) | (refine Ext.updI ?_ ?_; (focus (simp; done))))
  have c0 := lo_0 (.slice a (ps.map pcC).length cap) bits sg z
  have ls : sub (loC (.slice a (ps.map pcC).length cap) bits sg z) 0 4 = loC (.slice a (ps.map pcC).length cap) bits sg z := rfl
  simp (disch := first | assumption | omega | (simp only [szR, rwC_len, rwC_all, pcC_len, pcC_all, loC_len, loC_all] <;> omega) | rfl | decide) only [gen0, gen1, gen2, rulesC, rulesX, litR, bolR, Nat.reduceAdd, Nat.reduceLeDiff, numR, memR, valR, heapR, updR, intR, decR, extR, slR, segR, thenR, pnR, Int.reduceToNat, Int.reduceAdd, Int.reduceSub, Int.reduceLT, Int.reduceLE, Nat.reduceSub, Nat.reduceMul, Nat.reduceEqDiff, c0, ls]
  refine loopT.intro (fun st w' => ∃ (k : Nat), k ≤ ps.length ∧ st = [.int .u64 ((ps.take k).foldl (layB x) W : Nat), .int .i64 (k : Nat)] ∧ Ext [] w w')
    (fun st _ => match st with
      | [_, .int _ z] => ps.length - z.toNat
      | _ => 0) ⟨0, Nat.zero_le _, rfl, hx0⟩ ?_
  rintro st w' ⟨k, hk, rfl, hx'⟩ _
  by_cases h4 : k < ps.length
  · obtain ⟨p, hpk⟩ : ∃ p, ps[k]? = some p := ⟨_, List.getElem?_eq_getElem h4⟩
    have hrow : (ps.map pcC)[k]? = some (pcC p) := by rw [List.getElem?_map, hpk]; rfl
    obtain ⟨b0, o0, lb, E0, f0, hix, hb0, hfit, hblt, hbk, hsub, hget⟩ := RowsAt.ixR (P := Tryd.prog) (t := 47) Tryd.underlying47 Tryd.sizeOf92 hv hrow
    have hb3 := hx'.at hb0 (by simp)
    have hs := hsub o0 rfl
    have hW : (ps.take k).foldl (layB x) W < 18446744073709551616 := layB_lt (fun q hq => hp q (List.mem_of_mem_take hq)) hW0
    obtain ⟨p1, p2, p3, p4⟩ := hp p (List.mem_of_getElem? hpk)
    have hnext : (ps.take (k + 1)).foldl (layB x) W = layB x ((ps.take k).foldl (layB x) W) p := by
      rw [List.take_add_one, hpk, List.foldl_append]
      rfl
    obtain ⟨W1, hW1⟩ : ∃ W1, W1 = (ps.take k).foldl (layB x) W := ⟨_, rfl⟩
    rw [← hW1] at hW hnext ⊢
    have q0 : (pcC p)[0]? = some (.int .i64 (p.1 : Nat)) := rfl
    have q1 : (pcC p)[1]? = some (.int .i64 (p.2.1 : Nat)) := rfl
    have q2 : (pcC p)[2]? = some (.int .i64 (p.2.2 : Nat)) := rfl
    have hwx := wrap_un x
    have hux := un_lt x
    simp (disch := first | assumption | omega | (simp only [szR, rwC_len, rwC_all, pcC_len, pcC_all, loC_len, loC_all] <;> omega) | rfl | decide) only [gen0, gen1, gen2, rulesC, rulesX, litR, bolR, Nat.reduceAdd, Nat.reduceLeDiff, numR, memR, valR, heapR, updR, intR, decR, extR, slR, segR, thenR, pnR, Int.reduceToNat, Int.reduceAdd, Int.reduceSub, Int.reduceLT, Int.reduceLE, Nat.reduceSub, Nat.reduceMul, Nat.reduceEqDiff, hlen]
    refine joinL.intro fun J2 hJ2 => ?_
    simp (disch := first | assumption | omega | (simp only [szR, rwC_len, rwC_all, pcC_len, pcC_all, loC_len, loC_all] <;> omega) | rfl | decide) only [gen0, gen1, gen2, rulesC, rulesX, litR, bolR, Nat.reduceAdd, Nat.reduceLeDiff, numR, memR, valR, heapR, updR, intR, decR, extR, slR, segR, thenR, pnR, Int.reduceToNat, Int.reduceAdd, Int.reduceSub, Int.reduceLT, Int.reduceLE, Nat.reduceSub, Nat.reduceMul, Nat.reduceEqDiff, hix, hb3, hs, pcC_over, pcC_over2]
    have hx2 : Ext [] w' (w'.alloc (.cells (pcC p).toArray 92)).drew := by (repeat first | assumption | exact Ext.refl | apply Ext.alloc | apply Ext.drew | (refine Ext.updN ?_ ?_; (focus first | omega | (simp only [szR] <;> omega))) | (refine Ext.updI ?_ ?_; (focus (simp; done))))
    have g7 : (w'.alloc (.cells (pcC p).toArray 92)).drew.heap[w'.heap.size]? = some (.cells (pcC p).toArray 92 (0, 0)) := alloc_at rfl
    generalize w'.heap.size = b7 at *
    generalize (w'.alloc (.cells (pcC p).toArray 92)).drew = w2 at *
    have hqp := Nat.mod_lt (un x / 2 ^ p.1) (Nat.two_pow_pos p.2.1)
    have hp64 : (2 : Nat) ^ p.2.1 ≤ 18446744073709551616 := Nat.le_trans (Nat.pow_le_pow_right (by omega) (show p.2.1 ≤ 64 by omega)) (by decide)
    refine relX.ext [] ?_
    (repeat (apply postX.is; (focus (intro v w2 hR hd; have e0 := hR.at g7 (by simp); (try simp (disch := first | assumption | omega | (simp only [szR, rwC_len, rwC_all, pcC_len, pcC_all, loC_len, loC_all] <;> omega) | rfl | decide) only [gen0, gen1, gen2, rulesC, rulesX, litR, bolR, Nat.reduceAdd, Nat.reduceLeDiff, numR, memR, valR, heapR, updR, intR, decR, extR, slR, segR, thenR, pnR, Int.reduceToNat, Int.reduceAdd, Int.reduceSub, Int.reduceLT, Int.reduceLE, Nat.reduceSub, Nat.reduceMul, Nat.reduceEqDiff, hd, e0, q0, q1, q2, hwx, List.getD_cons_zero, List.getD_cons_succ]); exact okX.is))))
    apply postX.is
    · intro v w3 hR hd
      simp (disch := first | assumption | omega | (simp only [szR, rwC_len, rwC_all, pcC_len, pcC_all, loC_len, loC_all] <;> omega) | rfl | decide) only [gen0, gen1, gen2, rulesC, rulesX, litR, bolR, Nat.reduceAdd, Nat.reduceLeDiff, numR, memR, valR, heapR, updR, intR, decR, extR, slR, segR, thenR, pnR, Int.reduceToNat, Int.reduceAdd, Int.reduceSub, Int.reduceLT, Int.reduceLE, Nat.reduceSub, Nat.reduceMul, Nat.reduceEqDiff, hd]
      exact fGet_spec (by omega) (by omega) (by omega) (by omega) fun w4 hx4 => okX.mk hx4 rfl
    intro v w3 hR hd _
    simp (disch := first | assumption | omega | (simp only [szR, rwC_len, rwC_all, pcC_len, pcC_all, loC_len, loC_all] <;> omega) | rfl | decide) only [gen0, gen1, gen2, rulesC, rulesX, litR, bolR, Nat.reduceAdd, Nat.reduceLeDiff, numR, memR, valR, heapR, updR, intR, decR, extR, slR, segR, thenR, pnR, Int.reduceToNat, Int.reduceAdd, Int.reduceSub, Int.reduceLT, Int.reduceLE, Nat.reduceSub, Nat.reduceMul, Nat.reduceEqDiff, hd, Int.toNat_natCast]
    refine fPutG_spec (by omega) (by omega) (by omega) hW (by omega) fun w4 hx4 => ?_
    apply hJ2
    intro _
    simp (disch := first | assumption | omega | (simp only [szR, rwC_len, rwC_all, pcC_len, pcC_all, loC_len, loC_all] <;> omega) | rfl | decide) only [gen0, gen1, gen2, rulesC, rulesX, litR, bolR, Nat.reduceAdd, Nat.reduceLeDiff, numR, memR, valR, heapR, updR, intR, decR, extR, slR, segR, thenR, pnR, Int.reduceToNat, Int.reduceAdd, Int.reduceSub, Int.reduceLT, Int.reduceLE, Nat.reduceSub, Nat.reduceMul, Nat.reduceEqDiff, List.getD_cons_zero, List.getD_cons_succ]
    refine ⟨⟨k + 1, by omega, ?_, ((hx'.trans hx2 (by simp)).trans hR (by simp)).trans hx4 (by simp)⟩, by first | omega | (simp <;> omega)⟩
    rw [hnext]
    unfold layB
    simp
  · obtain rfl : k = ps.length := by omega
    rw [List.take_length]
    simp (disch := first | assumption | omega | (simp only [szR, rwC_len, rwC_all, pcC_len, pcC_all, loC_len, loC_all] <;> omega) | rfl | decide) only [gen0, gen1, gen2, rulesC, rulesX, litR, bolR, Nat.reduceAdd, Nat.reduceLeDiff, numR, memR, valR, heapR, updR, intR, decR, extR, slR, segR, thenR, pnR, Int.reduceToNat, Int.reduceAdd, Int.reduceSub, Int.reduceLT, Int.reduceLE, Nat.reduceSub, Nat.reduceMul, Nat.reduceEqDiff, hlen, List.getD_cons_zero, List.getD_cons_succ]
    exact hK _ hx'
def readX (W x : Nat) (p : Nat × Nat × Nat) : Nat := putB x p.1 p.2.1 (W / 2 ^ p.2.2 % 2 ^ p.2.1)
theorem readX_lt {W x : Nat} {ps : List (Nat × Nat × Nat)} (hp : ∀ p ∈ ps, pcOk p) (hx : x < 18446744073709551616) : ps.foldl (readX W) x < 18446744073709551616 := by
  induction ps generalizing x with
  | nil => exact hx
  | cons p ps ih =>
    rw [List.foldl_cons]
    obtain ⟨p1, p2, p3, p4⟩ := hp p (by simp)
    exact ih (fun q hq => hp q (by simp [hq])) (putB_lt hx (by omega))
/-- the number that pieces of a word make. -/
def readL (ps : List (Nat × Nat × Nat)) (bits : Nat) (sg : Bool) (W : Nat) : Int := let x := if sg then signN (ps.foldl (readX W) 0) bits else ps.foldl (readX W) 0
  if x < 9223372036854775808 then (x : Int) else (x : Int) - 18446744073709551616
theorem readG_spec {w : World} {v : Value} {ps : List (Nat × Nat × Nat)} {bits z W : Nat} {sg : Bool} (hv : RowsAt w v 3 (ps.map pcC)) (hp : ∀ p ∈ ps, pcOk p) (hW : W < 18446744073709551616)
    (hb : sg = true → 1 ≤ bits ∧ bits ≤ 64) {K : Value → World → Prop} (hK : ∀ w', Ext [] w w' → K (.int .i64 (readL ps bits sg W)) w') :
    callsK Tryd.prog 37 #[.agg (loC v bits sg z).toArray, .int .u64 (W : Nat)] w K := by
  apply F37_ok
  unfold F37
  have hcap : ps.length ≤ maxLen := by
    obtain ⟨_, _, _, ⟨hc1, hc2⟩, _⟩ := id hv
    rw [List.length_map] at hc1
    omega
  simp only [maxLen] at hcap
  have hlen : (ps.map pcC).length = ps.length := by simp
  obtain ⟨a, cap, rfl⟩ := hv.len
  have hx0 : Ext [] w (w.alloc (.cells (loC (.slice a (ps.map pcC).length cap) bits sg z).toArray 49)) := by (repeat first | assumption | exact Ext.refl | apply Ext.alloc | apply Ext.drew | (refine Ext.updN ?_ ?_; (focus first | omega | (simp only [szR] <;> omega))) | (refine Ext.updI ?_ ?_; (focus (simp; done))))
  have c0 := lo_0 (.slice a (ps.map pcC).length cap) bits sg z
  have c1 := lo_1 (.slice a (ps.map pcC).length cap) bits sg z
  have c2 := lo_2 (.slice a (ps.map pcC).length cap) bits sg z
  have g0 : (w.alloc (.cells (loC (.slice a (ps.map pcC).length cap) bits sg z).toArray 49)).heap[w.heap.size]? = some (.cells (loC (.slice a (ps.map pcC).length cap) bits sg z).toArray 49 (0, 0)) := by simp (disch := first | assumption | omega | (simp only [szR, rwC_len, rwC_all, pcC_len, pcC_all, loC_len, loC_all] <;> omega) | rfl | decide) only [gen0, gen1, gen2, rulesC, rulesX, litR, bolR, Nat.reduceAdd, Nat.reduceLeDiff, numR, memR, valR, heapR, updR, intR, decR, extR, slR, segR, thenR, pnR, Int.reduceToNat, Int.reduceAdd, Int.reduceSub, Int.reduceLT, Int.reduceLE, Nat.reduceSub, Nat.reduceMul, Nat.reduceEqDiff]
  simp (disch := first | assumption | omega | (simp only [szR, rwC_len, rwC_all, pcC_len, pcC_all, loC_len, loC_all] <;> omega) | rfl | decide) only [gen0, gen1, gen2, rulesC, rulesX, litR, bolR, Nat.reduceAdd, Nat.reduceLeDiff, numR, memR, valR, heapR, updR, intR, decR, extR, slR, segR, thenR, pnR, Int.reduceToNat, Int.reduceAdd, Int.reduceSub, Int.reduceLT, Int.reduceLE, Nat.reduceSub, Nat.reduceMul, Nat.reduceEqDiff, c0]
  refine loopT.intro (fun st w' => ∃ (k : Nat), k ≤ ps.length ∧ st = [.int .u64 ((ps.take k).foldl (readX W) 0 : Nat), .int .i64 (k : Nat)] ∧ w'.heap[w.heap.size]? = some (.cells (loC (.slice a (ps.map pcC).length cap) bits sg z).toArray 49 (0, 0)) ∧ Ext [] w w')
    (fun st _ => match st with
      | [_, .int _ z] => ps.length - z.toNat
      | _ => 0) ⟨0, Nat.zero_le _, rfl, g0, hx0⟩ ?_
  rintro st w' ⟨k, hk, rfl, h1, hx'⟩ _
  have l1 := lt_of_at h1
  by_cases h4 : k < ps.length
  · obtain ⟨p, hpk⟩ : ∃ p, ps[k]? = some p := ⟨_, List.getElem?_eq_getElem h4⟩
    have hrow : (ps.map pcC)[k]? = some (pcC p) := by rw [List.getElem?_map, hpk]; rfl
    obtain ⟨b0, o0, lb, E0, f0, hix, hb0, hfit, hblt, hbk, hsub, hget⟩ := RowsAt.ixR (P := Tryd.prog) (t := 47) Tryd.underlying47 Tryd.sizeOf92 hv hrow
    have hb3 := hx'.at hb0 (by simp)
    have hs := hsub o0 rfl
    have hX : (ps.take k).foldl (readX W) 0 < 18446744073709551616 := readX_lt (fun q hq => hp q (List.mem_of_mem_take hq)) (by omega)
    obtain ⟨p1, p2, p3, p4⟩ := hp p (List.mem_of_getElem? hpk)
    have hnext : (ps.take (k + 1)).foldl (readX W) 0 = readX W ((ps.take k).foldl (readX W) 0) p := by
      rw [List.take_add_one, hpk, List.foldl_append]
      rfl
    obtain ⟨W1, hW1⟩ : ∃ W1, W1 = (ps.take k).foldl (readX W) 0 := ⟨_, rfl⟩
    rw [← hW1] at hX hnext ⊢
    have q0 : (pcC p)[0]? = some (.int .i64 (p.1 : Nat)) := rfl
    have q1 : (pcC p)[1]? = some (.int .i64 (p.2.1 : Nat)) := rfl
    have q2 : (pcC p)[2]? = some (.int .i64 (p.2.2 : Nat)) := rfl
    simp (disch := first | assumption | omega | (simp only [szR, rwC_len, rwC_all, pcC_len, pcC_all, loC_len, loC_all] <;> omega) | rfl | decide) only [gen0, gen1, gen2, rulesC, rulesX, litR, bolR, Nat.reduceAdd, Nat.reduceLeDiff, numR, memR, valR, heapR, updR, intR, decR, extR, slR, segR, thenR, pnR, Int.reduceToNat, Int.reduceAdd, Int.reduceSub, Int.reduceLT, Int.reduceLE, Nat.reduceSub, Nat.reduceMul, Nat.reduceEqDiff, hlen]
    refine joinL.intro fun J2 hJ2 => ?_
    simp (disch := first | assumption | omega | (simp only [szR, rwC_len, rwC_all, pcC_len, pcC_all, loC_len, loC_all] <;> omega) | rfl | decide) only [gen0, gen1, gen2, rulesC, rulesX, litR, bolR, Nat.reduceAdd, Nat.reduceLeDiff, numR, memR, valR, heapR, updR, intR, decR, extR, slR, segR, thenR, pnR, Int.reduceToNat, Int.reduceAdd, Int.reduceSub, Int.reduceLT, Int.reduceLE, Nat.reduceSub, Nat.reduceMul, Nat.reduceEqDiff, hix, hb3, hs, pcC_over, pcC_over2]
    have hx2 : Ext [] w' (w'.alloc (.cells (pcC p).toArray 92)).drew := by (repeat first | assumption | exact Ext.refl | apply Ext.alloc | apply Ext.drew | (refine Ext.updN ?_ ?_; (focus first | omega | (simp only [szR] <;> omega))) | (refine Ext.updI ?_ ?_; (focus (simp; done))))
    have g7 : (w'.alloc (.cells (pcC p).toArray 92)).drew.heap[w'.heap.size]? = some (.cells (pcC p).toArray 92 (0, 0)) := alloc_at rfl
    obtain ⟨b7, hb7⟩ : ∃ b7, b7 = w'.heap.size := ⟨_, rfl⟩
    rw [← hb7] at g7 ⊢
    generalize (w'.alloc (.cells (pcC p).toArray 92)).drew = w2 at *
    have hqp := Nat.mod_lt (W / 2 ^ p.2.2) (Nat.two_pow_pos p.2.1)
    have hp64 : (2 : Nat) ^ p.2.1 ≤ 18446744073709551616 := Nat.le_trans (Nat.pow_le_pow_right (by omega) (show p.2.1 ≤ 64 by omega)) (by decide)
    refine relX.ext [] ?_
    (repeat (apply postX.is; (focus (intro v w2 hR hd; have e0 := hR.at g7 (by simp); (try simp (disch := first | assumption | omega | (simp only [szR, rwC_len, rwC_all, pcC_len, pcC_all, loC_len, loC_all] <;> omega) | rfl | decide) only [gen0, gen1, gen2, rulesC, rulesX, litR, bolR, Nat.reduceAdd, Nat.reduceLeDiff, numR, memR, valR, heapR, updR, intR, decR, extR, slR, segR, thenR, pnR, Int.reduceToNat, Int.reduceAdd, Int.reduceSub, Int.reduceLT, Int.reduceLE, Nat.reduceSub, Nat.reduceMul, Nat.reduceEqDiff, hd, e0, q0, q1, q2, List.getD_cons_zero, List.getD_cons_succ]); exact okX.is))))
    apply postX.is
    · intro v w3 hR hd
      simp (disch := first | assumption | omega | (simp only [szR, rwC_len, rwC_all, pcC_len, pcC_all, loC_len, loC_all] <;> omega) | rfl | decide) only [gen0, gen1, gen2, rulesC, rulesX, litR, bolR, Nat.reduceAdd, Nat.reduceLeDiff, numR, memR, valR, heapR, updR, intR, decR, extR, slR, segR, thenR, pnR, Int.reduceToNat, Int.reduceAdd, Int.reduceSub, Int.reduceLT, Int.reduceLE, Nat.reduceSub, Nat.reduceMul, Nat.reduceEqDiff, hd]
      exact fGet_spec (by omega) (by omega) (by omega) (by omega) fun w4 hx4 => okX.mk hx4 rfl
    intro v w3 hR hd _
    simp (disch := first | assumption | omega | (simp only [szR, rwC_len, rwC_all, pcC_len, pcC_all, loC_len, loC_all] <;> omega) | rfl | decide) only [gen0, gen1, gen2, rulesC, rulesX, litR, bolR, Nat.reduceAdd, Nat.reduceLeDiff, numR, memR, valR, heapR, updR, intR, decR, extR, slR, segR, thenR, pnR, Int.reduceToNat, Int.reduceAdd, Int.reduceSub, Int.reduceLT, Int.reduceLE, Nat.reduceSub, Nat.reduceMul, Nat.reduceEqDiff, hd, Int.toNat_natCast]
    refine fPutG_spec (by omega) (by omega) (by omega) hX (by omega) fun w4 hx4 => ?_
    have hx5 := (hx2.trans hR (by simp)).trans hx4 (by simp)
    apply hJ2
    intro _
    simp (disch := first | assumption | omega | (simp only [szR, rwC_len, rwC_all, pcC_len, pcC_all, loC_len, loC_all] <;> omega) | rfl | decide) only [gen0, gen1, gen2, rulesC, rulesX, litR, bolR, Nat.reduceAdd, Nat.reduceLeDiff, numR, memR, valR, heapR, updR, intR, decR, extR, slR, segR, thenR, pnR, Int.reduceToNat, Int.reduceAdd, Int.reduceSub, Int.reduceLT, Int.reduceLE, Nat.reduceSub, Nat.reduceMul, Nat.reduceEqDiff, List.getD_cons_zero, List.getD_cons_succ]
    refine ⟨⟨k + 1, by omega, ?_, hx5.at h1 (by simp), hx'.trans hx5 (by simp)⟩, by first | omega | (simp <;> omega)⟩
    rw [hnext]
    unfold readX
    simp
  · obtain rfl : k = ps.length := by omega
    have hX : (ps.take ps.length).foldl (readX W) 0 < 18446744073709551616 := readX_lt (fun q hq => hp q (List.mem_of_mem_take hq)) (by omega)
    rw [List.take_length] at hX ⊢
    obtain ⟨R, hR⟩ : ∃ R, R = readL ps bits sg W := ⟨_, rfl⟩
    rw [← hR] at hK
    unfold readL at hR
    generalize ps.foldl (readX W) 0 = x at *
    simp (disch := first | assumption | omega | (simp only [szR, rwC_len, rwC_all, pcC_len, pcC_all, loC_len, loC_all] <;> omega) | rfl | decide) only [gen0, gen1, gen2, rulesC, rulesX, litR, bolR, Nat.reduceAdd, Nat.reduceLeDiff, numR, memR, valR, heapR, updR, intR, decR, extR, slR, segR, thenR, pnR, Int.reduceToNat, Int.reduceAdd, Int.reduceSub, Int.reduceLT, Int.reduceLE, Nat.reduceSub, Nat.reduceMul, Nat.reduceEqDiff, hlen]
    refine joinL.intro fun J5 hJ5 => ?_
    cases sg with
    | false =>
      have hr : R = if x < 9223372036854775808 then (x : Int) else (x : Int) - 18446744073709551616 := hR
      have hw := wrap_i64N hX
      rw [← hr] at hw
      simp (disch := first | assumption | omega | (simp only [szR, rwC_len, rwC_all, pcC_len, pcC_all, loC_len, loC_all] <;> omega) | rfl | decide) only [gen0, gen1, gen2, rulesC, rulesX, litR, bolR, Nat.reduceAdd, Nat.reduceLeDiff, numR, memR, valR, heapR, updR, intR, decR, extR, slR, segR, thenR, pnR, Int.reduceToNat, Int.reduceAdd, Int.reduceSub, Int.reduceLT, Int.reduceLE, Nat.reduceSub, Nat.reduceMul, Nat.reduceEqDiff, h1, c2]
      apply hJ5
      intro _
      simp (disch := first | assumption | omega | (simp only [szR, rwC_len, rwC_all, pcC_len, pcC_all, loC_len, loC_all] <;> omega) | rfl | decide) only [gen0, gen1, gen2, rulesC, rulesX, litR, bolR, Nat.reduceAdd, Nat.reduceLeDiff, numR, memR, valR, heapR, updR, intR, decR, extR, slR, segR, thenR, pnR, Int.reduceToNat, Int.reduceAdd, Int.reduceSub, Int.reduceLT, Int.reduceLE, Nat.reduceSub, Nat.reduceMul, Nat.reduceEqDiff, hw, List.getD_cons_zero]
      exact hK _ hx'
    | true =>
      have hr : R = if signN x bits < 9223372036854775808 then (signN x bits : Int) else (signN x bits : Int) - 18446744073709551616 := hR
      have hw := wrap_i64N (signN_lt (x := x) (hb rfl))
      rw [← hr] at hw
      simp (disch := first | assumption | omega | (simp only [szR, rwC_len, rwC_all, pcC_len, pcC_all, loC_len, loC_all] <;> omega) | rfl | decide) only [gen0, gen1, gen2, rulesC, rulesX, litR, bolR, Nat.reduceAdd, Nat.reduceLeDiff, numR, memR, valR, heapR, updR, intR, decR, extR, slR, segR, thenR, pnR, Int.reduceToNat, Int.reduceAdd, Int.reduceSub, Int.reduceLT, Int.reduceLE, Nat.reduceSub, Nat.reduceMul, Nat.reduceEqDiff, h1, c1, c2]
      refine SignG_spec (hb rfl) ?_
      apply hJ5
      intro _
      simp (disch := first | assumption | omega | (simp only [szR, rwC_len, rwC_all, pcC_len, pcC_all, loC_len, loC_all] <;> omega) | rfl | decide) only [gen0, gen1, gen2, rulesC, rulesX, litR, bolR, Nat.reduceAdd, Nat.reduceLeDiff, numR, memR, valR, heapR, updR, intR, decR, extR, slR, segR, thenR, pnR, Int.reduceToNat, Int.reduceAdd, Int.reduceSub, Int.reduceLT, Int.reduceLE, Nat.reduceSub, Nat.reduceMul, Nat.reduceEqDiff, hw, List.getD_cons_zero]
      exact hK _ hx'
end Go.Proofs.YtobkjnmdbkieeaaDoor
