/- A walk through the tables; conditions: those of each theorem. -/
import Derived.Test.YtfpcflmgipklcaaTab7
namespace Go.Proofs.Ytfpcflmgipklcaa
open Go.Fx
set_option maxRecDepth 100000
set_option linter.unusedSimpArgs false
set_option linter.unusedVariables false
/-- the cells of what was found. -/
def fdC (f : Nat → Bool) (n a : Nat) : List Value := [.bool (f 0), .bool (f 1), .bool (f 2), .bool (f 3), .bool (f 4), .bool (f 5), .bool (f 6), .bool (f 7), .bool (f 8), .bool (f 9), .bool (f 10), .bool (f 11), .int .u64 n, .int .u64 a]
theorem fdC_len (f : Nat → Bool) (n a : Nat) : (fdC f n a).length = 14 := by simp [fdC]
theorem fdC_all (f : Nat → Bool) (n a : Nat) : (fdC f n a).all (fun v => v.oneCell') = true := by simp [fdC]; exact ⟨rfl, rfl, rfl, rfl, rfl, rfl, rfl, rfl, rfl, rfl, rfl, rfl, rfl, rfl⟩
theorem fdC_sub (f : Nat → Bool) (n a : Nat) : sub (fdC f n a) 0 14 = fdC f n a := by simp [fdC, sub]
theorem fdC_sub13 (f : Nat → Bool) (n a : Nat) : sub (fdC f n a) 0 13 = entC f n := by simp [fdC, entC, sub]
theorem fdC_at (f : Nat → Bool) (n a : Nat) : (fdC f n a)[13]? = some (.int .u64 a) := rfl
def noF : Nat → Bool := fun _ => false
theorem fdC_zero : [.bool false, .bool false, .bool false, .bool false, .bool false, .bool false, .bool false, .bool false, .bool false, .bool false, .bool false, .bool false, .int .u64 0, .int .u64 0] = fdC noF 0 0 := by simp [fdC, noF]
theorem entC_zero : [.bool false, .bool false, .bool false, .bool false, .bool false, .bool false, .bool false, .bool false, .bool false, .bool false, .bool false, .bool false, .int .u64 0] = entC noF 0 := by simp [entC, noF]
theorem blF (f : Nat → Bool) (n a : Nat) (w : World) : (Instr.build 59 [(0, .agg (entC f n).toArray), (1, .int .u64 a)].toArray).run Try.prog w = .ok (.agg (fdC f n a).toArray) w := RM_bl_59_0_1 _ _ _ _ _ _ _ _ _ _ _ _ _ _ w
theorem ne_bool (a b : Bool) : (!(a == b)) = (a != b) := rfl
def bad (x k n : Nat) : Bool := !fl x 0 || !right (fl x) (fr x) || (leaf (fl x) != decide (k = 0)) || decide (n ≤ fr x)
/-- a walk, from a frame of a level down. -/
def wk (M : Nat → Nat) (n va : Nat) : Nat → Nat → Option (Nat × Nat)
  | 0, _ => none
  | k + 1, frame => if n ≤ frame then none else if bad (M (frame * 4096 + idx va k * 8)) k n then none else if k = 0 then some (M (frame * 4096 + idx va k * 8), frame * 4096 + idx va k * 8) else wk M n va k (fr (M (frame * 4096 + idx va k * 8)))
def walkA (M : Nat → Nat) (n root va : Nat) : Option (Nat × Nat) := if va < 274877906944 then wk M n va 3 root else none
def wkR : Option (Nat × Nat) → Value
  | some (x, a) => .tuple #[.agg (fdC (fl x) (fr x) a).toArray, .int .i64 0]
  | none => .tuple #[.agg (fdC noF 0 0).toArray, .int .i64 1]
def wkRef : Option (Nat × Nat) → Value
  | some (x, a) => .tuple #[.agg (entC (fl x) (fr x)).toArray, .int .u64 a, .int .i64 0]
  | none => .tuple #[.agg (entC noF 0).toArray, .int .u64 0, .int .i64 1]
theorem le8_lt {m : Nat → Int} (h : Byte m) (a : Nat) : leN m a 8 < 18446744073709551616 := leN_lt h a 8
set_option maxHeartbeats 4000000 in
theorem walk_spec {w : World} {r q n root va : Nat} {m g : Nat → Int} (h : Mem w r q n m g) (hn : 0 < n ∧ n ≤ 64) (hroot : root < 18446744073709551616) (hva : va < 18446744073709551616) {K : Value → World → Prop}
    (hK : ∀ w', Ext [] w w' → K (wkR (walkA (fun a => leN m a 8) n root va)) w') : callsK Try.prog 20 #[.pointer (some ⟨r, 0, none⟩), .int .u64 root, .int .u64 va] w K := by
  have hbm := h.byte
  apply F20_ok
  unfold F20
  simp (disch := first | assumption | omega | (simp only [szR, entC_len, entC_all, fdC_len, fdC_all] <;> omega) | rfl | decide) only [gen0, gen1, gen2, rulesM, rulesT, litR, bolR, Nat.reduceAdd, Nat.reduceLeDiff, numR, memR, valR, heapR, updR, intR, decR, extR, slR, segR, thenR, pnR, Int.reduceToNat, Int.reduceAdd, Int.reduceSub, Int.reduceLT, Int.reduceLE, Nat.reduceSub, Nat.reduceMul, Nat.reduceEqDiff]
  refine Frames_spec (h.ext (S := []) (by (repeat first | assumption | exact Ext.refl | apply Ext.alloc | apply Ext.drew | (refine Ext.updN ?_ ?_; (focus first | omega | (simp only [szR] <;> omega))) | (refine Ext.updI ?_ ?_; (focus (simp; done))))) (by simp) (by simp)) (by omega) ?_
  have hz : splice [Value.bool false, .bool false, .bool false, .bool false, .bool false, .bool false, .bool false, .bool false, .bool false, .bool false, .bool false, .bool false, .int .u64 0, .int .u64 0] 0 (fdC noF 0 0) = fdC noF 0 0 := splice_over (by rw [fdC_len]; rfl)
  have hsp : ∀ f n a, splice (fdC noF 0 0) 0 (fdC f n a) = fdC f n a := fun f n a => splice_over (by rw [fdC_len, fdC_len])
  have hdr : ∀ f n a, fdC f n a ++ List.drop (fdC f n a).length (fdC noF 0 0) = fdC f n a := fun f n a => by rw [fdC_len]; simp [fdC]
  simp (disch := first | assumption | omega | (simp only [szR, entC_len, entC_all, fdC_len, fdC_all] <;> omega) | rfl | decide) only [gen0, gen1, gen2, rulesM, rulesT, litR, bolR, Nat.reduceAdd, Nat.reduceLeDiff, numR, memR, valR, heapR, updR, intR, decR, extR, slR, segR, thenR, pnR, Int.reduceToNat, Int.reduceAdd, Int.reduceSub, Int.reduceLT, Int.reduceLE, Nat.reduceSub, Nat.reduceMul, Nat.reduceEqDiff, fdC_zero, hz, hsp, hdr]
  refine joinL.intro fun J0 hJ0 => ?_
  have hnone : ∀ w', w'.heap[w.heap.size]? = some (.cells (fdC noF 0 0).toArray 59 (0, 0)) → Ext [] w w' → walkA (fun a => leN m a 8) n root va = none → J0 [] w' := by
    intro w' hc hx he
    apply hJ0
    intro _
    rw [he] at hK
    have l1 := lt_of_at hc
    simp (disch := first | assumption | omega | (simp only [szR, entC_len, entC_all, fdC_len, fdC_all] <;> omega) | rfl | decide) only [gen0, gen1, gen2, rulesM, rulesT, litR, bolR, Nat.reduceAdd, Nat.reduceLeDiff, numR, memR, valR, heapR, updR, intR, decR, extR, slR, segR, thenR, pnR, Int.reduceToNat, Int.reduceAdd, Int.reduceSub, Int.reduceLT, Int.reduceLE, Nat.reduceSub, Nat.reduceMul, Nat.reduceEqDiff, hc, fdC_zero, hsp, hdr, fdC_sub]
    exact hK _ (by (repeat first | assumption | exact Ext.refl | apply Ext.alloc | apply Ext.drew | (refine Ext.updN ?_ ?_; (focus first | omega | (simp only [szR] <;> omega))) | (refine Ext.updI ?_ ?_; (focus (simp; done)))))
  clear hJ0
  by_cases hva2 : ¬ va < 274877906944
  · have he : walkA (fun a => leN m a 8) n root va = none := by unfold walkA; rw [if_neg hva2]
    have hdv : decide (va < 274877906944) = false := decide_eq_false hva2
    refine loopT.intro (fun st w' => st = [.int .u64 root, .int .i64 2] ∧ w'.heap[w.heap.size]? = some (.cells (fdC noF 0 0).toArray 59 (0, 0)) ∧ Ext [] w w') (fun _ _ => 0) ⟨rfl, ?_, ?_⟩ ?_
    · (first | with_reducible rfl | assumption | (simp (disch := first | assumption | omega | (simp only [szR, entC_len, entC_all, fdC_len, fdC_all] <;> omega) | rfl | decide) only [gen0, gen1, gen2, rulesM, rulesT, litR, bolR, Nat.reduceAdd, Nat.reduceLeDiff, numR, memR, valR, heapR, updR, intR, decR, extR, slR, segR, thenR, pnR, Int.reduceToNat, Int.reduceAdd, Int.reduceSub, Int.reduceLT, Int.reduceLE, Nat.reduceSub, Nat.reduceMul, Nat.reduceEqDiff, fdC_zero] <;> try rfl))
    · (repeat first | assumption | exact Ext.refl | apply Ext.alloc | apply Ext.drew | (refine Ext.updN ?_ ?_; (focus first | omega | (simp only [szR] <;> omega))) | (refine Ext.updI ?_ ?_; (focus (simp; done))))
    rintro st w' ⟨rfl, hc6, hx⟩ _
    simp (disch := first | assumption | omega | (simp only [szR, entC_len, entC_all, fdC_len, fdC_all] <;> omega) | rfl | decide) only [gen0, gen1, gen2, rulesM, rulesT, litR, bolR, Nat.reduceAdd, Nat.reduceLeDiff, numR, memR, valR, heapR, updR, intR, decR, extR, slR, segR, thenR, pnR, Int.reduceToNat, Int.reduceAdd, Int.reduceSub, Int.reduceLT, Int.reduceLE, Nat.reduceSub, Nat.reduceMul, Nat.reduceEqDiff]
    refine May_spec ?_
    rw [hdv]
    simp (disch := first | assumption | omega | (simp only [szR, entC_len, entC_all, fdC_len, fdC_all] <;> omega) | rfl | decide) only [gen0, gen1, gen2, rulesM, rulesT, litR, bolR, Nat.reduceAdd, Nat.reduceLeDiff, numR, memR, valR, heapR, updR, intR, decR, extR, slR, segR, thenR, pnR, Int.reduceToNat, Int.reduceAdd, Int.reduceSub, Int.reduceLT, Int.reduceLE, Nat.reduceSub, Nat.reduceMul, Nat.reduceEqDiff]
    exact hnone _ hc6 hx he
  have hva2 : va < 274877906944 := by omega
  have he : walkA (fun a => leN m a 8) n root va = wk (fun a => leN m a 8) n va 3 root := by unfold walkA; rw [if_pos hva2]
  have hdv : decide (va < 274877906944) = true := decide_eq_true hva2
  refine loopT.intro (fun st w' => ∃ l frame : Nat, l ≤ 2 ∧ frame < 18446744073709551616 ∧ st = [.int .u64 frame, .int .i64 l] ∧ wk (fun a => leN m a 8) n va (l + 1) frame = walkA (fun a => leN m a 8) n root va ∧ w'.heap[w.heap.size]? = some (.cells (fdC noF 0 0).toArray 59 (0, 0)) ∧ w'.heap[w.heap.size + 1]? = some (.cells (fdC noF 0 0).toArray 59 (0, 0)) ∧ Ext [] w w')
    (fun st _ => match st with
      | [_, .int _ z] => z.toNat
      | _ => 0) ⟨2, root, by omega, hroot, rfl, he.symm, ?_, ?_, ?_⟩ ?_
  · (first | with_reducible rfl | assumption | (simp (disch := first | assumption | omega | (simp only [szR, entC_len, entC_all, fdC_len, fdC_all] <;> omega) | rfl | decide) only [gen0, gen1, gen2, rulesM, rulesT, litR, bolR, Nat.reduceAdd, Nat.reduceLeDiff, numR, memR, valR, heapR, updR, intR, decR, extR, slR, segR, thenR, pnR, Int.reduceToNat, Int.reduceAdd, Int.reduceSub, Int.reduceLT, Int.reduceLE, Nat.reduceSub, Nat.reduceMul, Nat.reduceEqDiff, fdC_zero, hdr] <;> try rfl))
  · (first | with_reducible rfl | assumption | (simp (disch := first | assumption | omega | (simp only [szR, entC_len, entC_all, fdC_len, fdC_all] <;> omega) | rfl | decide) only [gen0, gen1, gen2, rulesM, rulesT, litR, bolR, Nat.reduceAdd, Nat.reduceLeDiff, numR, memR, valR, heapR, updR, intR, decR, extR, slR, segR, thenR, pnR, Int.reduceToNat, Int.reduceAdd, Int.reduceSub, Int.reduceLT, Int.reduceLE, Nat.reduceSub, Nat.reduceMul, Nat.reduceEqDiff, fdC_zero, hdr] <;> try rfl))
  · (repeat first | assumption | exact Ext.refl | apply Ext.alloc | apply Ext.drew | (refine Ext.updN ?_ ?_; (focus first | omega | (simp only [szR] <;> omega))) | (refine Ext.updI ?_ ?_; (focus (simp; done))))
  rintro st w' ⟨l, frame, hl, hfr, rfl, hwk, hc6, hc10, hx⟩ _
  clear he
  simp (disch := first | assumption | omega | (simp only [szR, entC_len, entC_all, fdC_len, fdC_all] <;> omega) | rfl | decide) only [gen0, gen1, gen2, rulesM, rulesT, litR, bolR, Nat.reduceAdd, Nat.reduceLeDiff, numR, memR, valR, heapR, updR, intR, decR, extR, slR, segR, thenR, pnR, Int.reduceToNat, Int.reduceAdd, Int.reduceSub, Int.reduceLT, Int.reduceLE, Nat.reduceSub, Nat.reduceMul, Nat.reduceEqDiff]
  refine May_spec ?_
  rw [hdv]
  unfold wk at hwk
  by_cases hfn : n ≤ frame
  · rw [if_pos hfn] at hwk
    simp (disch := first | assumption | omega | (simp only [szR, entC_len, entC_all, fdC_len, fdC_all] <;> omega) | rfl | decide) only [gen0, gen1, gen2, rulesM, rulesT, litR, bolR, Nat.reduceAdd, Nat.reduceLeDiff, numR, memR, valR, heapR, updR, intR, decR, extR, slR, segR, thenR, pnR, Int.reduceToNat, Int.reduceAdd, Int.reduceSub, Int.reduceLT, Int.reduceLE, Nat.reduceSub, Nat.reduceMul, Nat.reduceEqDiff]
    exact hnone _ hc6 hx hwk.symm
  rw [if_neg hfn] at hwk
  have hil := idx_lt va l
  simp (disch := first | assumption | omega | (simp only [szR, entC_len, entC_all, fdC_len, fdC_all] <;> omega) | rfl | decide) only [gen0, gen1, gen2, rulesM, rulesT, litR, bolR, Nat.reduceAdd, Nat.reduceLeDiff, numR, memR, valR, heapR, updR, intR, decR, extR, slR, segR, thenR, pnR, Int.reduceToNat, Int.reduceAdd, Int.reduceSub, Int.reduceLT, Int.reduceLE, Nat.reduceSub, Nat.reduceMul, Nat.reduceEqDiff]
  refine Index_spec hva (by omega) fun w1 hx1 => ?_
  simp (disch := first | assumption | omega | (simp only [szR, entC_len, entC_all, fdC_len, fdC_all] <;> omega) | rfl | decide) only [gen0, gen1, gen2, rulesM, rulesT, litR, bolR, Nat.reduceAdd, Nat.reduceLeDiff, numR, memR, valR, heapR, updR, intR, decR, extR, slR, segR, thenR, pnR, Int.reduceToNat, Int.reduceAdd, Int.reduceSub, Int.reduceLT, Int.reduceLE, Nat.reduceSub, Nat.reduceMul, Nat.reduceEqDiff]
  refine wplace_spec (by omega) hil ?_
  have hat : frame * 4096 + idx va l * 8 < n * 4096 := by omega
  have hat8 : (frame * 4096 + idx va l * 8) % 8 = 0 := by omega
  have hxa := hx.trans hx1 (by simp)
  generalize frame * 4096 + idx va l * 8 = at0 at hwk hat hat8
  simp (disch := first | assumption | omega | (simp only [szR, entC_len, entC_all, fdC_len, fdC_all] <;> omega) | rfl | decide) only [gen0, gen1, gen2, rulesM, rulesT, litR, bolR, Nat.reduceAdd, Nat.reduceLeDiff, numR, memR, valR, heapR, updR, intR, decR, extR, slR, segR, thenR, pnR, Int.reduceToNat, Int.reduceAdd, Int.reduceSub, Int.reduceLT, Int.reduceLE, Nat.reduceSub, Nat.reduceMul, Nat.reduceEqDiff]
  refine Load_spec (h.ext hxa (by simp) (by simp)) (by omega) hat (.inr (.inr (.inr rfl))) hat8 fun w2 hx2 => ?_
  have hxb := hxa.trans hx2 (by simp)
  have hx64 := le8_lt hbm at0
  generalize leN m at0 8 = x at hwk hx64
  simp (disch := first | assumption | omega | (simp only [szR, entC_len, entC_all, fdC_len, fdC_all] <;> omega) | rfl | decide) only [gen0, gen1, gen2, rulesM, rulesT, litR, bolR, Nat.reduceAdd, Nat.reduceLeDiff, numR, memR, valR, heapR, updR, intR, decR, extR, slR, segR, thenR, pnR, Int.reduceToNat, Int.reduceAdd, Int.reduceSub, Int.reduceLT, Int.reduceLE, Nat.reduceSub, Nat.reduceMul, Nat.reduceEqDiff]
  refine Of_spec hx64 fun w3 hx3 => ?_
  have hxc := hxb.trans hx3 (by simp)
  have hfx := fr_lt x
  have hsz := hxc.size
  have e6 := (hx1.trans hx2 (by simp)).trans hx3 (by simp)
  have hc6 := e6.at hc6 (by simp)
  have hc10 := e6.at hc10 (by simp)
  have l10 := lt_of_at hc10
  have hse : ∀ L : List Value, L.length = 13 → splice L 0 (entC (fl x) (fr x)) = entC (fl x) (fr x) := fun L hL => splice_over (by rw [hL, entC_len])
  have hde : ∀ L : List Value, L.length = 13 → entC (fl x) (fr x) ++ List.drop (entC (fl x) (fr x)).length L = entC (fl x) (fr x) := fun L hL => by rw [entC_len, ← hL]; simp
  simp (disch := first | assumption | omega | (simp only [szR, entC_len, entC_all, fdC_len, fdC_all] <;> omega) | rfl | decide) only [gen0, gen1, gen2, rulesM, rulesT, litR, bolR, Nat.reduceAdd, Nat.reduceLeDiff, numR, memR, valR, heapR, updR, intR, decR, extR, slR, segR, thenR, pnR, Int.reduceToNat, Int.reduceAdd, Int.reduceSub, Int.reduceLT, Int.reduceLE, Nat.reduceSub, Nat.reduceMul, Nat.reduceEqDiff, hse, hde, entC_zero]
  refine joinL.intro fun J5 hJ5 => ?_
  have hJ5t : ∀ w', w'.heap[w.heap.size]? = some (.cells (fdC noF 0 0).toArray 59 (0, 0)) → Ext [] w w' → bad x l n = true → J5 [.bool true] w' := by
    intro w' hc hx hb
    rw [if_pos hb] at hwk
    apply hJ5
    intro _
    simp (disch := first | assumption | omega | (simp only [szR, entC_len, entC_all, fdC_len, fdC_all] <;> omega) | rfl | decide) only [gen0, gen1, gen2, rulesM, rulesT, litR, bolR, Nat.reduceAdd, Nat.reduceLeDiff, numR, memR, valR, heapR, updR, intR, decR, extR, slR, segR, thenR, pnR, Int.reduceToNat, Int.reduceAdd, Int.reduceSub, Int.reduceLT, Int.reduceLE, Nat.reduceSub, Nat.reduceMul, Nat.reduceEqDiff]
    exact hnone _ hc hx hwk.symm
  have hJ5f : ∀ w', w'.heap[w.heap.size]? = some (.cells (fdC noF 0 0).toArray 59 (0, 0)) → w'.heap[w.heap.size + 1]? = some (.cells (fdC noF 0 0).toArray 59 (0, 0)) → w'.heap[w3.heap.size]? = some (.cells (entC (fl x) (fr x)).toArray 40 (0, 0)) → Ext [] w w' → bad x l n = false → J5 [.bool false] w' := by
    intro w' hc hd hv hx hb
    rw [if_neg (by rw [hb]; simp)] at hwk
    have l1 := lt_of_at hc
    have l2 := lt_of_at hd
    have l3 := lt_of_at hv
    apply hJ5
    intro _
    by_cases hl0 : l = 0
    · subst hl0
      rw [if_pos rfl] at hwk
      rw [← hwk] at hK
      simp (disch := first | assumption | omega | (simp only [szR, entC_len, entC_all, fdC_len, fdC_all] <;> omega) | rfl | decide) only [gen0, gen1, gen2, rulesM, rulesT, litR, bolR, Nat.reduceAdd, Nat.reduceLeDiff, numR, memR, valR, heapR, updR, intR, decR, extR, slR, segR, thenR, pnR, Int.reduceToNat, Int.reduceAdd, Int.reduceSub, Int.reduceLT, Int.reduceLE, Nat.reduceSub, Nat.reduceMul, Nat.reduceEqDiff, hv, entC_sub, blF, hsp, hdr, fdC_sub, hc, hd]
      exact hK _ (by (repeat first | assumption | exact Ext.refl | apply Ext.alloc | apply Ext.drew | (refine Ext.updN ?_ ?_; (focus first | omega | (simp only [szR] <;> omega))) | (refine Ext.updI ?_ ?_; (focus (simp; done)))))
    · rw [if_neg hl0] at hwk
      obtain ⟨l', rfl⟩ : ∃ l', l = l' + 1 := ⟨l - 1, by omega⟩
      have e1 : ((l' + 1 : Nat) : Int) - 1 = (l' : Int) := by omega
      simp (disch := first | assumption | omega | (simp only [szR, entC_len, entC_all, fdC_len, fdC_all] <;> omega) | rfl | decide) only [gen0, gen1, gen2, rulesM, rulesT, litR, bolR, Nat.reduceAdd, Nat.reduceLeDiff, numR, memR, valR, heapR, updR, intR, decR, extR, slR, segR, thenR, pnR, Int.reduceToNat, Int.reduceAdd, Int.reduceSub, Int.reduceLT, Int.reduceLE, Nat.reduceSub, Nat.reduceMul, Nat.reduceEqDiff, hv, entC_at, e1]
      exact ⟨⟨l', fr x, by omega, by omega, rfl, hwk, hc, hd, hx⟩, by first | omega | (simp <;> omega)⟩
  clear hJ5 hnone hK hwk
  cases h0 : fl x 0
  · simp (disch := first | assumption | omega | (simp only [szR, entC_len, entC_all, fdC_len, fdC_all] <;> omega) | rfl | decide) only [gen0, gen1, gen2, rulesM, rulesT, litR, bolR, Nat.reduceAdd, Nat.reduceLeDiff, numR, memR, valR, heapR, updR, intR, decR, extR, slR, segR, thenR, pnR, Int.reduceToNat, Int.reduceAdd, Int.reduceSub, Int.reduceLT, Int.reduceLE, Nat.reduceSub, Nat.reduceMul, Nat.reduceEqDiff, entC_at, h0]
    exact hJ5t _ (by first | with_reducible rfl | assumption | (simp (disch := first | assumption | omega | (simp only [szR, entC_len, entC_all, fdC_len, fdC_all] <;> omega) | rfl | decide) only [gen0, gen1, gen2, rulesM, rulesT, litR, bolR, Nat.reduceAdd, Nat.reduceLeDiff, numR, memR, valR, heapR, updR, intR, decR, extR, slR, segR, thenR, pnR, Int.reduceToNat, Int.reduceAdd, Int.reduceSub, Int.reduceLT, Int.reduceLE, Nat.reduceSub, Nat.reduceMul, Nat.reduceEqDiff, hc6] <;> rfl)) (by (repeat first | assumption | exact Ext.refl | apply Ext.alloc | apply Ext.drew | (refine Ext.updN ?_ ?_; (focus first | omega | (simp only [szR] <;> omega))) | (refine Ext.updI ?_ ?_; (focus (simp; done))))) (by simp [bad, h0])
  simp (disch := first | assumption | omega | (simp only [szR, entC_len, entC_all, fdC_len, fdC_all] <;> omega) | rfl | decide) only [gen0, gen1, gen2, rulesM, rulesT, litR, bolR, Nat.reduceAdd, Nat.reduceLeDiff, numR, memR, valR, heapR, updR, intR, decR, extR, slR, segR, thenR, pnR, Int.reduceToNat, Int.reduceAdd, Int.reduceSub, Int.reduceLT, Int.reduceLE, Nat.reduceSub, Nat.reduceMul, Nat.reduceEqDiff, entC_at, entC_sub, h0]
  refine Right_spec (by omega) fun w5 hx5 => ?_
  have hx5w : Ext [] w w5 := Ext.trans (S := []) (by (repeat first | assumption | exact Ext.refl | apply Ext.alloc | apply Ext.drew | (refine Ext.updN ?_ ?_; (focus first | omega | (simp only [szR] <;> omega))) | (refine Ext.updI ?_ ?_; (focus (simp; done))))) hx5 (by simp)
  have hs5 := hx5.size
  simp only [szR] at hs5
  have hk5 := kept0 hx5
  cases h1 : right (fl x) (fr x)
  · simp (disch := first | assumption | omega | (simp only [szR, entC_len, entC_all, fdC_len, fdC_all] <;> omega) | rfl | decide) only [gen0, gen1, gen2, rulesM, rulesT, litR, bolR, Nat.reduceAdd, Nat.reduceLeDiff, numR, memR, valR, heapR, updR, intR, decR, extR, slR, segR, thenR, pnR, Int.reduceToNat, Int.reduceAdd, Int.reduceSub, Int.reduceLT, Int.reduceLE, Nat.reduceSub, Nat.reduceMul, Nat.reduceEqDiff]
    exact hJ5t _ (by first | with_reducible rfl | assumption | (simp (disch := first | assumption | omega | (simp only [szR, entC_len, entC_all, fdC_len, fdC_all] <;> omega) | rfl | decide) only [gen0, gen1, gen2, rulesM, rulesT, litR, bolR, Nat.reduceAdd, Nat.reduceLeDiff, numR, memR, valR, heapR, updR, intR, decR, extR, slR, segR, thenR, pnR, Int.reduceToNat, Int.reduceAdd, Int.reduceSub, Int.reduceLT, Int.reduceLE, Nat.reduceSub, Nat.reduceMul, Nat.reduceEqDiff, hk5, hc6] <;> rfl)) (by (repeat first | assumption | exact Ext.refl | apply Ext.alloc | apply Ext.drew | (refine Ext.updN ?_ ?_; (focus first | omega | (simp only [szR] <;> omega))) | (refine Ext.updI ?_ ?_; (focus (simp; done))))) (by simp [bad, h0, h1])
  simp (disch := first | assumption | omega | (simp only [szR, entC_len, entC_all, fdC_len, fdC_all] <;> omega) | rfl | decide) only [gen0, gen1, gen2, rulesM, rulesT, litR, bolR, Nat.reduceAdd, Nat.reduceLeDiff, numR, memR, valR, heapR, updR, intR, decR, extR, slR, segR, thenR, pnR, Int.reduceToNat, Int.reduceAdd, Int.reduceSub, Int.reduceLT, Int.reduceLE, Nat.reduceSub, Nat.reduceMul, Nat.reduceEqDiff, hk5, entC_at, entC_sub]
  refine Leaf_spec fun w6 hx6 => ?_
  have hx6w := hx5w.trans hx6 (by simp)
  have hs6 := hx6.size
  have hk6 := kept0 hx6
  have hdl : decide ((l : Int) = 0) = decide (l = 0) := by
    rw [Bool.eq_iff_iff]
    simp only [decide_eq_true_eq]
    omega
  cases h2 : (leaf (fl x) != decide (l = 0))
  · have h2' : (!(leaf (fl x) == decide (l = 0))) = false := h2
    by_cases h3 : n ≤ fr x
    · simp (disch := first | assumption | omega | (simp only [szR, entC_len, entC_all, fdC_len, fdC_all] <;> omega) | rfl | decide) only [gen0, gen1, gen2, rulesM, rulesT, litR, bolR, Nat.reduceAdd, Nat.reduceLeDiff, numR, memR, valR, heapR, updR, intR, decR, extR, slR, segR, thenR, pnR, Int.reduceToNat, Int.reduceAdd, Int.reduceSub, Int.reduceLT, Int.reduceLE, Nat.reduceSub, Nat.reduceMul, Nat.reduceEqDiff, hk6, hk5, entC_at, entC_sub, hdl, h2']
      exact hJ5t _ (by first | with_reducible rfl | assumption | (simp (disch := first | assumption | omega | (simp only [szR, entC_len, entC_all, fdC_len, fdC_all] <;> omega) | rfl | decide) only [gen0, gen1, gen2, rulesM, rulesT, litR, bolR, Nat.reduceAdd, Nat.reduceLeDiff, numR, memR, valR, heapR, updR, intR, decR, extR, slR, segR, thenR, pnR, Int.reduceToNat, Int.reduceAdd, Int.reduceSub, Int.reduceLT, Int.reduceLE, Nat.reduceSub, Nat.reduceMul, Nat.reduceEqDiff, hk6, hk5, hc6] <;> rfl)) (by (repeat first | assumption | exact Ext.refl | apply Ext.alloc | apply Ext.drew | (refine Ext.updN ?_ ?_; (focus first | omega | (simp only [szR] <;> omega))) | (refine Ext.updI ?_ ?_; (focus (simp; done))))) (by simp [bad, h3])
    · simp (disch := first | assumption | omega | (simp only [szR, entC_len, entC_all, fdC_len, fdC_all] <;> omega) | rfl | decide) only [gen0, gen1, gen2, rulesM, rulesT, litR, bolR, Nat.reduceAdd, Nat.reduceLeDiff, numR, memR, valR, heapR, updR, intR, decR, extR, slR, segR, thenR, pnR, Int.reduceToNat, Int.reduceAdd, Int.reduceSub, Int.reduceLT, Int.reduceLE, Nat.reduceSub, Nat.reduceMul, Nat.reduceEqDiff, hk6, hk5, entC_at, entC_sub, hdl, h2']
      exact hJ5f _ (by first | with_reducible rfl | assumption | (simp (disch := first | assumption | omega | (simp only [szR, entC_len, entC_all, fdC_len, fdC_all] <;> omega) | rfl | decide) only [gen0, gen1, gen2, rulesM, rulesT, litR, bolR, Nat.reduceAdd, Nat.reduceLeDiff, numR, memR, valR, heapR, updR, intR, decR, extR, slR, segR, thenR, pnR, Int.reduceToNat, Int.reduceAdd, Int.reduceSub, Int.reduceLT, Int.reduceLE, Nat.reduceSub, Nat.reduceMul, Nat.reduceEqDiff, hk6, hk5, hc6] <;> rfl)) (by first | with_reducible rfl | assumption | (simp (disch := first | assumption | omega | (simp only [szR, entC_len, entC_all, fdC_len, fdC_all] <;> omega) | rfl | decide) only [gen0, gen1, gen2, rulesM, rulesT, litR, bolR, Nat.reduceAdd, Nat.reduceLeDiff, numR, memR, valR, heapR, updR, intR, decR, extR, slR, segR, thenR, pnR, Int.reduceToNat, Int.reduceAdd, Int.reduceSub, Int.reduceLT, Int.reduceLE, Nat.reduceSub, Nat.reduceMul, Nat.reduceEqDiff, hk6, hk5, hc10] <;> rfl)) (by first | with_reducible rfl | assumption | (simp (disch := first | assumption | omega | (simp only [szR, entC_len, entC_all, fdC_len, fdC_all] <;> omega) | rfl | decide) only [gen0, gen1, gen2, rulesM, rulesT, litR, bolR, Nat.reduceAdd, Nat.reduceLeDiff, numR, memR, valR, heapR, updR, intR, decR, extR, slR, segR, thenR, pnR, Int.reduceToNat, Int.reduceAdd, Int.reduceSub, Int.reduceLT, Int.reduceLE, Nat.reduceSub, Nat.reduceMul, Nat.reduceEqDiff, hk6, hk5] <;> rfl)) (by (repeat first | assumption | exact Ext.refl | apply Ext.alloc | apply Ext.drew | (refine Ext.updN ?_ ?_; (focus first | omega | (simp only [szR] <;> omega))) | (refine Ext.updI ?_ ?_; (focus (simp; done))))) (by unfold bad; rw [h0, h1, h2, decide_eq_false h3]; rfl)
  · have h2' : (!(leaf (fl x) == decide (l = 0))) = true := h2
    simp (disch := first | assumption | omega | (simp only [szR, entC_len, entC_all, fdC_len, fdC_all] <;> omega) | rfl | decide) only [gen0, gen1, gen2, rulesM, rulesT, litR, bolR, Nat.reduceAdd, Nat.reduceLeDiff, numR, memR, valR, heapR, updR, intR, decR, extR, slR, segR, thenR, pnR, Int.reduceToNat, Int.reduceAdd, Int.reduceSub, Int.reduceLT, Int.reduceLE, Nat.reduceSub, Nat.reduceMul, Nat.reduceEqDiff, hk6, hk5, entC_at, entC_sub, hdl, h2']
    exact hJ5t _ (by first | with_reducible rfl | assumption | (simp (disch := first | assumption | omega | (simp only [szR, entC_len, entC_all, fdC_len, fdC_all] <;> omega) | rfl | decide) only [gen0, gen1, gen2, rulesM, rulesT, litR, bolR, Nat.reduceAdd, Nat.reduceLeDiff, numR, memR, valR, heapR, updR, intR, decR, extR, slR, segR, thenR, pnR, Int.reduceToNat, Int.reduceAdd, Int.reduceSub, Int.reduceLT, Int.reduceLE, Nat.reduceSub, Nat.reduceMul, Nat.reduceEqDiff, hk6, hk5, hc6] <;> rfl)) (by (repeat first | assumption | exact Ext.refl | apply Ext.alloc | apply Ext.drew | (refine Ext.updN ?_ ?_; (focus first | omega | (simp only [szR] <;> omega))) | (refine Ext.updI ?_ ?_; (focus (simp; done))))) (by unfold bad; rw [h2]; simp)
end Go.Proofs.Ytfpcflmgipklcaa
