/- An instruction that is run: its cells; what it tells; conditions: those of each theorem. -/
import Derived.Test.YtplfniijbeinmaaGreatAlu
import Derived.Test.YtplfniijbeinmaaGreatRam
namespace Go.Proofs.YtplfniijbeinmaaGreat
open Go.Fx
set_option maxRecDepth 100000
set_option linter.unusedSimpArgs false
set_option linter.unusedVariables false
theorem sub_left {A B : List Value} {o n : Nat} (h : o + n ≤ A.length) : sub (A ++ B) o n = sub A o n := by
  unfold sub
  rw [List.drop_append_of_le_length (by omega), List.take_append_of_le_length (by rw [List.length_drop]; omega)]
theorem sub_right {A B : List Value} {o n k : Nat} (h : o = A.length + k) : sub (A ++ B) o n = sub B k n := by
  unfold sub
  rw [h, List.drop_append, List.drop_of_length_le (by omega), List.nil_append, Nat.add_sub_cancel_left]
theorem sub_whole {A : List Value} {n : Nat} (h : n = A.length) : sub A 0 n = A := by
  unfold sub
  rw [List.drop_zero, List.take_of_length_le (by omega)]
theorem splice_left {A B V : List Value} {o : Nat} (h : o + V.length ≤ A.length) : splice (A ++ B) o V = splice A o V ++ B := by
  unfold splice
  rw [List.take_append_of_le_length (by omega), List.drop_append_of_le_length (by omega)]
  simp only [List.append_assoc]
theorem splice_right {A B V : List Value} {o k : Nat} (h : o = A.length + k) : splice (A ++ B) o V = A ++ splice B k V := by
  unfold splice
  rw [h, List.take_append, List.drop_append, List.take_of_length_le (by omega), List.drop_of_length_le (l := A) (by omega), List.nil_append, Nat.add_sub_cancel_left, show A.length + k + V.length - A.length = k + V.length by omega]
  simp only [List.append_assoc]
theorem splice_whole {A V : List Value} (h : V.length = A.length) : splice A 0 V = V := by
  unfold splice
  rw [List.take_zero, List.nil_append, List.drop_of_length_le (by omega), List.append_nil]
/-- what came of an instruction. -/
def ouC (k c v : Nat) (i : In) : List Value := [.int .i64 k, .int .i64 c, .int .u64 v] ++ inC i
theorem ouC_len (k c v : Nat) (i : In) : (ouC k c v i).length = 8 := by simp [ouC, inC]
theorem ouC_all (k c v : Nat) (i : In) : (ouC k c v i).all (fun v => v.oneCell') = true := by simp [ouC, inC]; exact ⟨rfl, rfl, rfl, rfl, rfl, rfl, rfl, rfl⟩
theorem ou_sub (k c v : Nat) (i : In) : sub (ouC k c v i) 0 8 = ouC k c v i := rfl
def In.zero : In := ⟨0, 0, 0, 0, 0⟩
theorem ou_over (k c v : Nat) (i : In) : splice [.int .i64 0, .int .i64 0, .int .u64 0, .int .i64 0, .int .i64 0, .int .i64 0, .int .i64 0, .int .i64 0] 0 (ouC k c v i) = ouC k c v i := rfl
theorem ou_put (k c v : Nat) (i : In) : ouC k c v i ++ List.drop (ouC k c v i).length [.int .i64 0, .int .i64 0, .int .u64 0, .int .i64 0, .int .i64 0, .int .i64 0, .int .i64 0, .int .i64 0] = ouC k c v i := by simp [ouC, inC]
/-- an instruction that is run. -/
structure Rn where
  c : Nat → Cq
  d : Nat → Cq
  m : Value
  hm : m.oneCell' = true
  i : In
  a : Cq
  b : Cq
def rnC (r : Rn) : List Value := cxC r.c ++ (cxC r.d ++ (r.m :: (inC r.i ++ (cq r.a ++ cq r.b))))
theorem rnC_len (r : Rn) : (rnC r).length = 210 := by
  unfold rnC
  simp only [List.length_append, List.length_cons, cxC_len, inC_len, cq_len]
theorem rnC_all (r : Rn) : (rnC r).all (fun v => v.oneCell') = true := by
  unfold rnC
  rw [List.all_append, List.all_append, List.all_cons, List.all_append, List.all_append, cxC_all, cxC_all, inC_all, cq_all, cq_all, r.hm]
  rfl
theorem rn_c (r : Rn) : sub (rnC r) 0 99 = cxC r.c := by
  unfold rnC
  rw [sub_left (by rw [cxC_len]; omega), sub_whole (by rw [cxC_len])]
theorem rn_d (r : Rn) : sub (rnC r) 99 99 = cxC r.d := by
  unfold rnC
  rw [sub_right (k := 0) (by rw [cxC_len]), sub_left (by rw [cxC_len]; omega), sub_whole (by rw [cxC_len])]
theorem rnC_cons (r : Rn) : rnC r = (cxC r.c ++ (cxC r.d ++ [r.m])) ++ (inC r.i ++ (cq r.a ++ cq r.b)) := by
  unfold rnC
  simp
theorem rn_i (r : Rn) : sub (rnC r) 199 5 = inC r.i := by
  rw [rnC_cons, sub_right (k := 0) (by simp [cxC_len]), sub_left (by rw [inC_len]; omega), sub_whole (by rw [inC_len])]
theorem rn_a (r : Rn) : sub (rnC r) 204 3 = cq r.a := by
  rw [rnC_cons, sub_right (k := 5) (by simp [cxC_len]), sub_right (k := 0) (by rw [inC_len]), sub_left (by rw [cq_len]; omega), sub_whole (by rw [cq_len])]
theorem rn_b (r : Rn) : sub (rnC r) 207 3 = cq r.b := by
  rw [rnC_cons, sub_right (k := 8) (by simp [cxC_len]), sub_right (k := 3) (by rw [inC_len]), sub_right (k := 0) (by rw [cq_len]), sub_whole (by rw [cq_len])]
theorem get_sub {L : List Value} {o n j : Nat} (h : j < n) : L[o + j]? = (sub L o n)[j]? := by
  unfold sub
  rw [List.getElem?_take, if_pos h, List.getElem?_drop]
theorem rn_m (r : Rn) : (rnC r)[198]? = some r.m := by
  unfold rnC
  rw [List.getElem?_append_right (by rw [cxC_len]; omega), List.getElem?_append_right (by rw [cxC_len, cxC_len]; omega), cxC_len, cxC_len]
  rfl
theorem rn_op (r : Rn) : (rnC r)[199]? = some (.int .i64 r.i.op) := by
  rw [get_sub (o := 199) (n := 5) (j := 0) (by omega), rn_i]
  rfl
theorem rn_rd (r : Rn) : (rnC r)[200]? = some (.int .i64 r.i.rd) := by
  rw [get_sub (o := 199) (n := 5) (j := 1) (by omega), rn_i]
  rfl
theorem rn_im (r : Rn) : (rnC r)[203]? = some (.int .i64 r.i.im) := by
  rw [get_sub (o := 199) (n := 5) (j := 4) (by omega), rn_i]
  rfl
theorem rn_aa (r : Rn) : (rnC r)[206]? = some (.int .u64 r.a.a) := by
  rw [get_sub (o := 204) (n := 3) (j := 2) (by omega), rn_a]
  rfl
theorem rn_bt (r : Rn) : (rnC r)[207]? = some (.bool r.b.t) := by
  rw [get_sub (o := 207) (n := 3) (j := 0) (by omega), rn_b]
  rfl
theorem rn_ba (r : Rn) : (rnC r)[209]? = some (.int .u64 r.b.a) := by
  rw [get_sub (o := 207) (n := 3) (j := 2) (by omega), rn_b]
  rfl
theorem rn_setc (r : Rn) (c : Nat → Cq) : splice (rnC r) 0 (cxC c) = rnC { r with c := c } := by
  unfold rnC
  rw [splice_left (by rw [cxC_len, cxC_len]; omega), splice_whole (by rw [cxC_len, cxC_len])]
theorem rn_seti (r : Rn) (i : In) : splice (rnC r) 199 (inC i) = rnC { r with i := i } := by
  rw [rnC_cons, rnC_cons, splice_right (k := 0) (by simp [cxC_len]), splice_left (by rw [inC_len, inC_len]; omega), splice_whole (by rw [inC_len, inC_len])]
theorem rn_seta (r : Rn) (a : Cq) : splice (rnC r) 204 (cq a) = rnC { r with a := a } := by
  rw [rnC_cons, rnC_cons, splice_right (k := 5) (by simp [cxC_len]), splice_right (k := 0) (by rw [inC_len]), splice_left (by rw [cq_len, cq_len]; omega), splice_whole (by rw [cq_len, cq_len])]
theorem rn_setb (r : Rn) (b : Cq) : splice (rnC r) 207 (cq b) = rnC { r with b := b } := by
  rw [rnC_cons, rnC_cons, splice_right (k := 8) (by simp [cxC_len]), splice_right (k := 3) (by rw [inC_len]), splice_right (k := 0) (by rw [cq_len]), splice_whole (by rw [cq_len, cq_len])]
/-- a block that is written by one operation, as a whole. -/
theorem relX.one (b : Nat) (o : Obj) {G : (World → World → Prop) → Prop} (h : G fun w w' => Ext [b] w w' ∧ ∀ x, w.heap[b]? = some x → w'.heap[b]? = some x ∨ w'.heap[b]? = some o) : relX G := by
  refine ⟨_, fun _ => ⟨Ext.refl, fun _ h => .inl h⟩, fun a b c h1 h2 => ⟨h1.1.step h2.1, fun x hx => ?_⟩, fun _ _ h => h.1.size, h⟩
  rcases h1.2 x hx with h3 | h3
  · exact h2.2 x h3
  · rcases h2.2 o h3 with h4 | h4
    · exact .inr h4
    · exact .inr h4
theorem okX.one {b : Nat} {o : Obj} {w : World} {v : Value} : okX (fun w w' => Ext [b] w w' ∧ ∀ x, w.heap[b]? = some x → w'.heap[b]? = some x ∨ w'.heap[b]? = some o) w (fun u _ => u = v) v w := ⟨⟨Ext.refl, fun _ h => .inl h⟩, rfl⟩

theorem retire_spec {w : World} {q : Nat} {r : Rn} (hr : w.heap[q]? = some (.cells (rnC r).toArray 91 (0, 0))) {K : Value → World → Prop} (hK : ∀ w', Ext [] w w' → K (.tuple #[.agg (cxC r.c).toArray, .agg (ouC 0 0 0 r.i).toArray]) w') : callsK Tryz.prog 96 #[.pointer (some ⟨q, 0, none⟩)] w K := by
  apply F96_ok
  unfold F96
  have l0 := lt_of_at hr
  simp (disch := first | assumption | omega | (simp only [szR, cq_len, cq_all, cxC_len, cxC_all, inC_len, inC_all, rnC_len, rnC_all, ouC_len, ouC_all] <;> omega) | rfl | decide) only [gen0, gen1, gen2, rulesC, rulesX, rulesM, litR, bolR, Nat.reduceAdd, Nat.reduceLeDiff, numR, memR, valR, heapR, updR, intR, decR, extR, slR, segR, thenR, pnR, Int.reduceToNat, Int.reduceAdd, Int.reduceSub, Int.reduceLT, Int.reduceLE, Nat.reduceSub, Nat.reduceMul, Nat.reduceEqDiff, zeroX_cells]
  have hx0 : Ext [] w ((w.alloc (.cells (cxC zeroX).toArray 42)).alloc (.cells [.int .i64 0, .int .i64 0, .int .u64 0, .int .i64 0, .int .i64 0, .int .i64 0, .int .i64 0, .int .i64 0].toArray 51)).drew := by (repeat first | assumption | exact Ext.refl | apply Ext.alloc | apply Ext.drew | (refine Ext.updN ?_ ?_; (focus first | omega | (simp only [szR] <;> omega))) | (refine Ext.updI ?_ ?_; (focus (simp; done))))
  have g1 : ((w.alloc (.cells (cxC zeroX).toArray 42)).alloc (.cells [.int .i64 0, .int .i64 0, .int .u64 0, .int .i64 0, .int .i64 0, .int .i64 0, .int .i64 0, .int .i64 0].toArray 51)).drew.heap[w.heap.size]? = some (.cells (cxC zeroX).toArray 42 (0, 0)) := (by first | with_reducible rfl | assumption | (simp (disch := first | assumption | omega | (simp only [szR, cq_len, cq_all, cxC_len, cxC_all, inC_len, inC_all, rnC_len, rnC_all, ouC_len, ouC_all] <;> omega) | rfl | decide) only [gen0, gen1, gen2, rulesC, rulesX, rulesM, litR, bolR, Nat.reduceAdd, Nat.reduceLeDiff, numR, memR, valR, heapR, updR, intR, decR, extR, slR, segR, thenR, pnR, Int.reduceToNat, Int.reduceAdd, Int.reduceSub, Int.reduceLT, Int.reduceLE, Nat.reduceSub, Nat.reduceMul, Nat.reduceEqDiff] <;> rfl))
  have g2 : ((w.alloc (.cells (cxC zeroX).toArray 42)).alloc (.cells [.int .i64 0, .int .i64 0, .int .u64 0, .int .i64 0, .int .i64 0, .int .i64 0, .int .i64 0, .int .i64 0].toArray 51)).drew.heap[w.heap.size + 1]? = some (.cells [.int .i64 0, .int .i64 0, .int .u64 0, .int .i64 0, .int .i64 0, .int .i64 0, .int .i64 0, .int .i64 0].toArray 51 (0, 0)) := (by first | with_reducible rfl | assumption | (simp (disch := first | assumption | omega | (simp only [szR, cq_len, cq_all, cxC_len, cxC_all, inC_len, inC_all, rnC_len, rnC_all, ouC_len, ouC_all] <;> omega) | rfl | decide) only [gen0, gen1, gen2, rulesC, rulesX, rulesM, litR, bolR, Nat.reduceAdd, Nat.reduceLeDiff, numR, memR, valR, heapR, updR, intR, decR, extR, slR, segR, thenR, pnR, Int.reduceToNat, Int.reduceAdd, Int.reduceSub, Int.reduceLT, Int.reduceLE, Nat.reduceSub, Nat.reduceMul, Nat.reduceEqDiff] <;> rfl))
  have g0 := hx0.at hr (by simp)
  obtain ⟨b1, hb1⟩ : ∃ b1, b1 = w.heap.size := ⟨_, rfl⟩
  have hq : q ≠ b1 := by omega
  rw [← hb1] at g1 g2 ⊢
  generalize ((w.alloc (.cells (cxC zeroX).toArray 42)).alloc (.cells [.int .i64 0, .int .i64 0, .int .u64 0, .int .i64 0, .int .i64 0, .int .i64 0, .int .i64 0, .int .i64 0].toArray 51)).drew = w1 at *
  refine relX.one b1 (.cells (cxC r.c).toArray 42 (0, 0)) ?_
  refine postX.is (.pointer (some ⟨q, 0, none⟩)) (fun v w2 hR _ => okX.one) ?_
  refine postX.is (.pointer (some ⟨q, 0, none⟩)) (fun v w2 hR hd => by obtain ⟨d1, -⟩ := hd; simp (disch := first | assumption | omega | (simp only [szR, cq_len, cq_all, cxC_len, cxC_all, inC_len, inC_all, rnC_len, rnC_all, ouC_len, ouC_all] <;> omega) | rfl | decide) only [gen0, gen1, gen2, rulesC, rulesX, rulesM, litR, bolR, Nat.reduceAdd, Nat.reduceLeDiff, numR, memR, valR, heapR, updR, intR, decR, extR, slR, segR, thenR, pnR, Int.reduceToNat, Int.reduceAdd, Int.reduceSub, Int.reduceLT, Int.reduceLE, Nat.reduceSub, Nat.reduceMul, Nat.reduceEqDiff, d1]; exact okX.one) ?_
  refine postX.is (.pointer (some ⟨q, 0, none⟩)) (fun v w2 hR hd => by obtain ⟨d1, -⟩ := hd; simp (disch := first | assumption | omega | (simp only [szR, cq_len, cq_all, cxC_len, cxC_all, inC_len, inC_all, rnC_len, rnC_all, ouC_len, ouC_all] <;> omega) | rfl | decide) only [gen0, gen1, gen2, rulesC, rulesX, rulesM, litR, bolR, Nat.reduceAdd, Nat.reduceLeDiff, numR, memR, valR, heapR, updR, intR, decR, extR, slR, segR, thenR, pnR, Int.reduceToNat, Int.reduceAdd, Int.reduceSub, Int.reduceLT, Int.reduceLE, Nat.reduceSub, Nat.reduceMul, Nat.reduceEqDiff, d1]; exact okX.one) ?_
  refine postX.is (.agg (cxC r.c).toArray) (fun v w2 hR hd => by
    obtain ⟨d1, -⟩ := hd
    have e := hR.1.at g0 (by simpa using hq)
    simp (disch := first | assumption | omega | (simp only [szR, cq_len, cq_all, cxC_len, cxC_all, inC_len, inC_all, rnC_len, rnC_all, ouC_len, ouC_all] <;> omega) | rfl | decide) only [gen0, gen1, gen2, rulesC, rulesX, rulesM, litR, bolR, Nat.reduceAdd, Nat.reduceLeDiff, numR, memR, valR, heapR, updR, intR, decR, extR, slR, segR, thenR, pnR, Int.reduceToNat, Int.reduceAdd, Int.reduceSub, Int.reduceLT, Int.reduceLE, Nat.reduceSub, Nat.reduceMul, Nat.reduceEqDiff, d1, e, rn_c]
    exact okX.one) ?_
  refine postX.is (.pointer (some ⟨q, 0, none⟩)) (fun v w2 hR _ => okX.one) ?_
  refine postX.is (.pointer (some ⟨q, 0, none⟩)) (fun v w2 hR hd => by obtain ⟨d1, -⟩ := hd; simp (disch := first | assumption | omega | (simp only [szR, cq_len, cq_all, cxC_len, cxC_all, inC_len, inC_all, rnC_len, rnC_all, ouC_len, ouC_all] <;> omega) | rfl | decide) only [gen0, gen1, gen2, rulesC, rulesX, rulesM, litR, bolR, Nat.reduceAdd, Nat.reduceLeDiff, numR, memR, valR, heapR, updR, intR, decR, extR, slR, segR, thenR, pnR, Int.reduceToNat, Int.reduceAdd, Int.reduceSub, Int.reduceLT, Int.reduceLE, Nat.reduceSub, Nat.reduceMul, Nat.reduceEqDiff, d1]; exact okX.one) ?_
  refine postX.is (.pointer (some ⟨q, 199, none⟩)) (fun v w2 hR hd => by obtain ⟨d1, -⟩ := hd; simp (disch := first | assumption | omega | (simp only [szR, cq_len, cq_all, cxC_len, cxC_all, inC_len, inC_all, rnC_len, rnC_all, ouC_len, ouC_all] <;> omega) | rfl | decide) only [gen0, gen1, gen2, rulesC, rulesX, rulesM, litR, bolR, Nat.reduceAdd, Nat.reduceLeDiff, numR, memR, valR, heapR, updR, intR, decR, extR, slR, segR, thenR, pnR, Int.reduceToNat, Int.reduceAdd, Int.reduceSub, Int.reduceLT, Int.reduceLE, Nat.reduceSub, Nat.reduceMul, Nat.reduceEqDiff, d1]; exact okX.one) ?_
  refine postX.is (.agg (inC r.i).toArray) (fun v w2 hR hd => by
    obtain ⟨d1, -⟩ := hd
    have e := hR.1.at g0 (by simpa using hq)
    simp (disch := first | assumption | omega | (simp only [szR, cq_len, cq_all, cxC_len, cxC_all, inC_len, inC_all, rnC_len, rnC_all, ouC_len, ouC_all] <;> omega) | rfl | decide) only [gen0, gen1, gen2, rulesC, rulesX, rulesM, litR, bolR, Nat.reduceAdd, Nat.reduceLeDiff, numR, memR, valR, heapR, updR, intR, decR, extR, slR, segR, thenR, pnR, Int.reduceToNat, Int.reduceAdd, Int.reduceSub, Int.reduceLT, Int.reduceLE, Nat.reduceSub, Nat.reduceMul, Nat.reduceEqDiff, d1, e, rn_i]
    exact okX.one) ?_
  have hb : ∀ (a0 a1 a2 a3 a4 : Int) (w : World), (Instr.build 51 #[(3, .agg [.int .i64 a0, .int .i64 a1, .int .i64 a2, .int .i64 a3, .int .i64 a4].toArray)]).run Tryz.prog w = .ok (.agg [.int .i64 0, .int .i64 0, .int .u64 0, .int .i64 a0, .int .i64 a1, .int .i64 a2, .int .i64 a3, .int .i64 a4].toArray) w := fun a0 a1 a2 a3 a4 w => run_build w 51 _ _ (by kernel_rfl)
  have hb2 : ∀ (w : World), (Instr.build 51 #[(3, .agg (inC r.i).toArray)]).run Tryz.prog w = .ok (.agg (ouC 0 0 0 r.i).toArray) w := fun w => hb _ _ _ _ _ w
  refine postX.is (.agg (ouC 0 0 0 r.i).toArray) (fun v w2 hR hd => by
    obtain ⟨d1, -⟩ := hd
    simp (disch := first | assumption | omega | (simp only [szR, cq_len, cq_all, cxC_len, cxC_all, inC_len, inC_all, rnC_len, rnC_all, ouC_len, ouC_all] <;> omega) | rfl | decide) only [gen0, gen1, gen2, rulesC, rulesX, rulesM, litR, bolR, Nat.reduceAdd, Nat.reduceLeDiff, numR, memR, valR, heapR, updR, intR, decR, extR, slR, segR, thenR, pnR, Int.reduceToNat, Int.reduceAdd, Int.reduceSub, Int.reduceLT, Int.reduceLE, Nat.reduceSub, Nat.reduceMul, Nat.reduceEqDiff, d1, hb2]
    exact okX.one) ?_
  have hat : ∀ w2, (Ext [b1] w1 w2 ∧ ∀ x, w1.heap[b1]? = some x → w2.heap[b1]? = some x ∨ w2.heap[b1]? = some (.cells (cxC r.c).toArray 42 (0, 0))) → ∃ d, w2.heap[b1]? = some (.cells (cxC d).toArray 42 (0, 0)) := by
    intro w2 h
    rcases h.2 _ g1 with h | h
    · exact ⟨_, h⟩
    · exact ⟨_, h⟩
  refine postX.intro (fun _ w => w.heap[b1]? = some (.cells (cxC r.c).toArray 42 (0, 0))) (fun _ w w' hR h => by rcases hR.2 _ h with h | h <;> exact h) (fun v w2 hR hd => by
    obtain ⟨-, -, -, d4, -⟩ := hd
    obtain ⟨d, e⟩ := hat w2 hR
    simp (disch := first | assumption | omega | (simp only [szR, cq_len, cq_all, cxC_len, cxC_all, inC_len, inC_all, rnC_len, rnC_all, ouC_len, ouC_all] <;> omega) | rfl | decide) only [gen0, gen1, gen2, rulesC, rulesX, rulesM, litR, bolR, Nat.reduceAdd, Nat.reduceLeDiff, numR, memR, valR, heapR, updR, intR, decR, extR, slR, segR, thenR, pnR, Int.reduceToNat, Int.reduceAdd, Int.reduceSub, Int.reduceLT, Int.reduceLE, Nat.reduceSub, Nat.reduceMul, Nat.reduceEqDiff, d4, e, cx_over, cx_put]
    have l := lt_of_at e
    have hxe : Ext [b1] w2 (World.upd w2 b1 (cxC r.c)) := by (repeat first | assumption | exact Ext.refl | apply Ext.alloc | apply Ext.drew | (refine Ext.updN ?_ ?_; (focus first | omega | (simp only [szR] <;> omega))) | (refine Ext.updI ?_ ?_; (focus (simp; done))))
    have hue : (World.upd w2 b1 (cxC r.c)).heap[b1]? = some (.cells (cxC r.c).toArray 42 (0, 0)) := upd_at e
    exact okX.mk ⟨hxe, fun x _ => .inr hue⟩ hue) ?_
  intro v w2 hR hd _
  obtain ⟨-, -, -, -, -, -, -, -, d9, ⟨u, h1⟩, -⟩ := hd
  have h2 := hR.1.at g2 (by simp)
  have l1 := lt_of_at h1
  have l2 := lt_of_at h2
  have hx : Ext [] w w2 := hx0.trans hR.1 (by simp [hb1])
  simp (disch := first | assumption | omega | (simp only [szR, cq_len, cq_all, cxC_len, cxC_all, inC_len, inC_all, rnC_len, rnC_all, ouC_len, ouC_all] <;> omega) | rfl | decide) only [gen0, gen1, gen2, rulesC, rulesX, rulesM, litR, bolR, Nat.reduceAdd, Nat.reduceLeDiff, numR, memR, valR, heapR, updR, intR, decR, extR, slR, segR, thenR, pnR, Int.reduceToNat, Int.reduceAdd, Int.reduceSub, Int.reduceLT, Int.reduceLE, Nat.reduceSub, Nat.reduceMul, Nat.reduceEqDiff, d9, h1, h2, ou_over, ou_put, cx_sub, ou_sub]
  exact hK _ (by (repeat first | assumption | exact Ext.refl | apply Ext.alloc | apply Ext.drew | (refine Ext.updN ?_ ?_; (focus first | omega | (simp only [szR] <;> omega))) | (refine Ext.updI ?_ ?_; (focus (simp; done)))))
end Go.Proofs.YtplfniijbeinmaaGreat
