/- The rows of instructions, and the shapes of their numbers, whatever they are; conditions: those of each theorem. -/
import Derived.Test.YtobkjnmdbkieeaaDoorFixI2
import Derived.Test.YtobkjnmdbkieeaaDoorStrings
namespace Go.Proofs.YtobkjnmdbkieeaaDoor
open Go.Fx
set_option maxRecDepth 100000
set_option linter.unusedSimpArgs false
set_option linter.unusedVariables false
theorem run_indexN {P : Program} {t e : TypeId} {n m : Nat} (h : P.underlying t = some (.array n e)) (ha : ∀ w, (isAgg e).run P w = .ok true w) (hs : ∀ w, (sizeOf e).run P w = .ok m w) (vs : List Value) (k : IntKind) (i : Int) (w : World) (hi : 0 ≤ i ∧ i < n) :
    (Instr.index t (.agg vs.toArray) (.int k i)).run P w = .ok (.agg (sub vs (i.toNat * m) m).toArray) w := by
  have hp := partN (P := P) (t := e) (xs := vs.toArray) (o := i.toNat * m) (n := m) (w := w) ha hs
  have hx : vs.toArray.extract (i.toNat * m) (i.toNat * m + m) = (sub vs (i.toNat * m) m).toArray := by
    rw [List.extract_toArray, List.extract_eq_take_drop, sub, Nat.add_sub_cancel_left]
  simp only [Instr.index, asIntOf, Sem.run_bind, Sem.run_pure, Result.andThen_ok, run_underlying h, hi, and_self, if_true, hs, hp, hx]
def row (k : Nat) : Rw := rowI.getD k Rw.zero
/-- a shape that there is. -/
def shOk (s : Nat) : Prop := s = 73 ∨ s = 67 ∨ s = 72 ∨ s = 83 ∨ s = 66 ∨ s = 85 ∨ s = 74 ∨ s = 82 ∨ s = 71 ∨ s = 78 ∨ s = 0
def rowGood (r : Rw) : Bool := decide (r.c < 18446744073709551616 ∧ r.f < 18446744073709551616 ∧ r.o < 18446744073709551616 ∧ fixW r < 4294967296 ∧ fixM r < 4294967296 ∧ (r.s = 73 ∨ r.s = 67 ∨ r.s = 72 ∨ r.s = 83 ∨ r.s = 66 ∨ r.s = 85 ∨ r.s = 74 ∨ r.s = 82 ∨ r.s = 71 ∨ r.s = 78))
theorem rows_good : rowI.all rowGood = true := by kernel_rfl
theorem row_mem {k : Nat} (h : k < 69) : row k ∈ rowI := by
  unfold row
  rw [List.getD_eq_getElem?_getD, List.getElem?_eq_getElem (by rw [rowI_len]; exact h)]
  exact List.getElem_mem _
theorem row_goodA {k : Nat} (h : k < 69) : (row k).c < 18446744073709551616 ∧ (row k).f < 18446744073709551616 ∧ (row k).o < 18446744073709551616 ∧ fixW (row k) < 4294967296 ∧ fixM (row k) < 4294967296 ∧ ((row k).s = 73 ∨ (row k).s = 67 ∨ (row k).s = 72 ∨ (row k).s = 83 ∨ (row k).s = 66 ∨ (row k).s = 85 ∨ (row k).s = 74 ∨ (row k).s = 82 ∨ (row k).s = 71 ∨ (row k).s = 78) := by
  have := List.all_eq_true.1 rows_good _ (row_mem h)
  unfold rowGood at this
  rwa [decide_eq_true_eq] at this
theorem row_good {k : Nat} (h : k < 69) : rwOk (row k) ∧ fixW (row k) < 4294967296 ∧ fixM (row k) < 4294967296 := by
  obtain ⟨a, b, c, d, e, f⟩ := row_goodA h
  exact ⟨⟨by omega, a, b, c⟩, d, e⟩
theorem row_sh {k : Nat} (h : k < 69) : shOk (row k).s := by
  obtain ⟨a, b, c, d, e, f⟩ := row_goodA h
  unfold shOk
  omega
theorem row_ix (i : Nat) (h : i < 69) (w : World) : (Instr.index 87 (.agg (rwsC rowI).toArray) (.int .i64 (i : Nat))).run Tryd.prog w = .ok (.agg (rwC (row i)).toArray) w := by
  have := run_indexN (P := Tryd.prog) (t := 87) (n := 69) (m := 5) Tryd.underlying87 Tryd.isAgg44 Tryd.sizeOf44 (rwsC rowI) .i64 (i : Nat) w (by omega)
  rw [this, Int.toNat_natCast, rws_at rowI i (by rw [rowI_len]; exact h)]
  rfl
def okOp (n : Int) : Bool := decide (1 ≤ n ∧ n ≤ 69)
/-- the row of a number, or none. -/
def rowZ (n : Int) : Rw := if okOp n then row (n - 1).toNat else Rw.zero
theorem rowZ_sh (n : Int) : shOk (rowZ n).s := by
  unfold rowZ
  split
  · rename_i h
    unfold okOp at h
    rw [decide_eq_true_eq] at h
    exact row_sh (by omega)
  · unfold shOk
    exact .inr (.inr (.inr (.inr (.inr (.inr (.inr (.inr (.inr (.inr rfl)))))))))
theorem iofZ_spec {w : World} {n : Int} (hn : -9223372036854775808 ≤ n ∧ n < 9223372036854775808) {K : Value → World → Prop} (hK : ∀ w', Ext [] w w' → K (.tuple #[.agg (rwC (rowZ n)).toArray, .bool (okOp n)]) w') : callsK Tryd.prog 12 #[.int .i64 n] w K := by
  apply F12_ok
  unfold F12
  by_cases hc : 1 ≤ n ∧ n ≤ 69
  · have hk : okOp n = true := decide_eq_true hc
    have hr : rowZ n = row (n - 1).toNat := by rw [rowZ, hk]; rfl
    rw [hk, hr] at hK
    simp (disch := first | assumption | omega | (simp only [szR, rwC_len, rwC_all, rwsC_len, rwsC_all, ptC_len, ptC_all] <;> omega) | rfl | decide) only [gen0, gen1, gen2, rulesC, rulesX, litR, bolR, Nat.reduceAdd, Nat.reduceLeDiff, numR, memR, valR, heapR, updR, intR, decR, extR, slR, segR, thenR, pnR, Int.reduceToNat, Int.reduceAdd, Int.reduceSub, Int.reduceLT, Int.reduceLE, Nat.reduceSub, Nat.reduceMul, Nat.reduceEqDiff, joinBR]
    refine rows_spec fun w1 hx1 => ?_
    have h1 : w1.heap[w.heap.size]? = some (.cells [.string ⟨#[]⟩, .int .u8 0, .int .u64 0, .int .u64 0, .int .u64 0].toArray 44 (0, 0)) := hx1.at (alloc_at rfl) (by simp)
    have l1 := lt_of_at h1
    have hx2 : Ext [] w w1 := Ext.trans (S := []) (by (repeat first | assumption | exact Ext.refl | apply Ext.alloc | apply Ext.drew | (refine Ext.updN ?_ ?_; (focus first | omega | (simp only [szR] <;> omega))) | (refine Ext.updI ?_ ?_; (focus (simp; done))))) hx1 (by simp)
    have hix := row_ix (n - 1).toNat (by omega)
    have en : n - 1 = (((n - 1).toNat : Nat) : Int) := by omega
    have rsb : ∀ r, sub (rwC r) 0 5 = rwC r := fun _ => rfl
    generalize (n - 1).toNat = m at *
    simp (disch := first | assumption | omega | (simp only [szR, rwC_len, rwC_all, rwsC_len, rwsC_all, ptC_len, ptC_all] <;> omega) | rfl | decide) only [gen0, gen1, gen2, rulesC, rulesX, litR, bolR, Nat.reduceAdd, Nat.reduceLeDiff, numR, memR, valR, heapR, updR, intR, decR, extR, slR, segR, thenR, pnR, Int.reduceToNat, Int.reduceAdd, Int.reduceSub, Int.reduceLT, Int.reduceLE, Nat.reduceSub, Nat.reduceMul, Nat.reduceEqDiff, en, hix, h1, rw_over, rw_put, rsb]
    exact hK _ (by (repeat first | assumption | exact Ext.refl | apply Ext.alloc | apply Ext.drew | (refine Ext.updN ?_ ?_; (focus first | omega | (simp only [szR] <;> omega))) | (refine Ext.updI ?_ ?_; (focus (simp; done)))))
  · have hk : okOp n = false := decide_eq_false hc
    have hr : rowZ n = Rw.zero := by rw [rowZ, hk]; rfl
    rw [hk, hr] at hK
    have hz : rwC Rw.zero = [.string ⟨#[]⟩, .int .u8 0, .int .u64 0, .int .u64 0, .int .u64 0] := rfl
    rw [hz] at hK
    by_cases h1 : n < 1
    · simp (disch := first | assumption | omega | (simp only [szR, rwC_len, rwC_all, rwsC_len, rwsC_all, ptC_len, ptC_all] <;> omega) | rfl | decide) only [gen0, gen1, gen2, rulesC, rulesX, litR, bolR, Nat.reduceAdd, Nat.reduceLeDiff, numR, memR, valR, heapR, updR, intR, decR, extR, slR, segR, thenR, pnR, Int.reduceToNat, Int.reduceAdd, Int.reduceSub, Int.reduceLT, Int.reduceLE, Nat.reduceSub, Nat.reduceMul, Nat.reduceEqDiff, joinBR]
      exact hK _ (by (repeat first | assumption | exact Ext.refl | apply Ext.alloc | apply Ext.drew | (refine Ext.updN ?_ ?_; (focus first | omega | (simp only [szR] <;> omega))) | (refine Ext.updI ?_ ?_; (focus (simp; done)))))
    · simp (disch := first | assumption | omega | (simp only [szR, rwC_len, rwC_all, rwsC_len, rwsC_all, ptC_len, ptC_all] <;> omega) | rfl | decide) only [gen0, gen1, gen2, rulesC, rulesX, litR, bolR, Nat.reduceAdd, Nat.reduceLeDiff, numR, memR, valR, heapR, updR, intR, decR, extR, slR, segR, thenR, pnR, Int.reduceToNat, Int.reduceAdd, Int.reduceSub, Int.reduceLT, Int.reduceLE, Nat.reduceSub, Nat.reduceMul, Nat.reduceEqDiff, joinBR]
      exact hK _ (by (repeat first | assumption | exact Ext.refl | apply Ext.alloc | apply Ext.drew | (refine Ext.updN ?_ ?_; (focus first | omega | (simp only [szR] <;> omega))) | (refine Ext.updI ?_ ?_; (focus (simp; done)))))
theorem Shape_spec {w : World} {n : Int} (hn : -9223372036854775808 ≤ n ∧ n < 9223372036854775808) {K : Value → World → Prop} (hK : ∀ w', Ext [] w w' → K (.int .u8 ((rowZ n).s : Nat)) w') : callsK Tryd.prog 23 #[.int .i64 n] w K := by
  apply F23_ok
  unfold F23
  refine iofZ_spec hn fun w1 hx1 => ?_
  generalize rowZ n = r at *
  have r1 : (rwC r)[1]? = some (.int .u8 (r.s : Nat)) := rfl
  simp (disch := first | assumption | omega | (simp only [szR, rwC_len, rwC_all, rwsC_len, rwsC_all, ptC_len, ptC_all] <;> omega) | rfl | decide) only [gen0, gen1, gen2, rulesC, rulesX, litR, bolR, Nat.reduceAdd, Nat.reduceLeDiff, numR, memR, valR, heapR, updR, intR, decR, extR, slR, segR, thenR, pnR, Int.reduceToNat, Int.reduceAdd, Int.reduceSub, Int.reduceLT, Int.reduceLE, Nat.reduceSub, Nat.reduceMul, Nat.reduceEqDiff, rw_over, rw_put, r1]
  exact hK _ (by (repeat first | assumption | exact Ext.refl | apply Ext.alloc | apply Ext.drew | (refine Ext.updN ?_ ?_; (focus first | omega | (simp only [szR] <;> omega))) | (refine Ext.updI ?_ ?_; (focus (simp; done)))))
theorem Name_spec {w : World} {n : Int} (hn : -9223372036854775808 ≤ n ∧ n < 9223372036854775808) {K : Value → World → Prop} (hK : ∀ w', Ext [] w w' → K (.string ⟨(rowZ n).n.toArray⟩) w') : callsK Tryd.prog 24 #[.int .i64 n] w K := by
  apply F24_ok
  unfold F24
  refine iofZ_spec hn fun w1 hx1 => ?_
  generalize rowZ n = r at *
  have r1 : (rwC r)[0]? = some (.string ⟨r.n.toArray⟩) := rfl
  simp (disch := first | assumption | omega | (simp only [szR, rwC_len, rwC_all, rwsC_len, rwsC_all, ptC_len, ptC_all] <;> omega) | rfl | decide) only [gen0, gen1, gen2, rulesC, rulesX, litR, bolR, Nat.reduceAdd, Nat.reduceLeDiff, numR, memR, valR, heapR, updR, intR, decR, extR, slR, segR, thenR, pnR, Int.reduceToNat, Int.reduceAdd, Int.reduceSub, Int.reduceLT, Int.reduceLE, Nat.reduceSub, Nat.reduceMul, Nat.reduceEqDiff, rw_over, rw_put, r1]
  exact hK _ (by (repeat first | assumption | exact Ext.refl | apply Ext.alloc | apply Ext.drew | (refine Ext.updN ?_ ?_; (focus first | omega | (simp only [szR] <;> omega))) | (refine Ext.updI ?_ ?_; (focus (simp; done)))))
/-- the number of a name, or 0. -/
def findN (s : List UInt8) : Nat → Nat → Nat
  | 0, k => 0
  | f + 1, k => if (row k).n = s then k + 1 else findN s f (k + 1)
theorem findN_lt (s : List UInt8) : ∀ f k, k + f = 69 → findN s f k ≤ 69
  | 0, k, _ => Nat.zero_le _
  | f + 1, k, h => by
    unfold findN
    split
    · omega
    · exact findN_lt s f (k + 1) (by omega)
theorem Find_spec {w : World} {s : List UInt8} {K : Value → World → Prop} (hK : ∀ w', Ext [] w w' → K (.int .i64 (findN s 69 0 : Nat)) w') : callsK Tryd.prog 27 #[.string ⟨s.toArray⟩] w K := by
  apply F27_ok
  unfold F27
  refine rows_spec fun w1 hx1 => ?_
  refine loopT.intro (fun st w' => ∃ (j : Nat), j ≤ 69 ∧ st = [.int .i64 (j : Nat)] ∧ Ext [] w w' ∧ findN s (69 - j) j = findN s 69 0)
    (fun st _ => match st with
      | [.int _ z] => 69 - z.toNat
      | _ => 0) ⟨0, Nat.zero_le _, rfl, hx1, rfl⟩ ?_
  rintro st w' ⟨j, hj, rfl, hx', hf⟩ _
  by_cases h4 : j < 69
  · have hix := row_ix j h4
    have r1 : (rwC (row j))[0]? = some (.string ⟨(row j).n.toArray⟩) := rfl
    have ef : 69 - j = (69 - (j + 1)) + 1 := by omega
    rw [ef, findN] at hf
    have heq := run_eqlS (P := Tryd.prog) (t := 9)
    by_cases hn : (row j).n = s
    · rw [if_pos hn] at hf
      have e2 : ((⟨(row j).n.toArray⟩ : ByteArray).toList == (⟨s.toArray⟩ : ByteArray).toList) = true := by rw [hn]; exact beq_self_eq_true _
      simp (disch := first | assumption | omega | (simp only [szR, rwC_len, rwC_all, rwsC_len, rwsC_all, ptC_len, ptC_all] <;> omega) | rfl | decide) only [gen0, gen1, gen2, rulesC, rulesX, litR, bolR, Nat.reduceAdd, Nat.reduceLeDiff, numR, memR, valR, heapR, updR, intR, decR, extR, slR, segR, thenR, pnR, Int.reduceToNat, Int.reduceAdd, Int.reduceSub, Int.reduceLT, Int.reduceLE, Nat.reduceSub, Nat.reduceMul, Nat.reduceEqDiff, hix, rw_over, rw_put, r1, heq, e2]
      rw [← hf] at hK
      exact hK _ (by (repeat first | assumption | exact Ext.refl | apply Ext.alloc | apply Ext.drew | (refine Ext.updN ?_ ?_; (focus first | omega | (simp only [szR] <;> omega))) | (refine Ext.updI ?_ ?_; (focus (simp; done)))))
    · rw [if_neg hn] at hf
      have e2 : ((⟨(row j).n.toArray⟩ : ByteArray).toList == (⟨s.toArray⟩ : ByteArray).toList) = false := by
        rw [beq_eq_false_iff_ne]
        simpa using hn
      simp (disch := first | assumption | omega | (simp only [szR, rwC_len, rwC_all, rwsC_len, rwsC_all, ptC_len, ptC_all] <;> omega) | rfl | decide) only [gen0, gen1, gen2, rulesC, rulesX, litR, bolR, Nat.reduceAdd, Nat.reduceLeDiff, numR, memR, valR, heapR, updR, intR, decR, extR, slR, segR, thenR, pnR, Int.reduceToNat, Int.reduceAdd, Int.reduceSub, Int.reduceLT, Int.reduceLE, Nat.reduceSub, Nat.reduceMul, Nat.reduceEqDiff, hix, rw_over, rw_put, r1, heq, e2]
      exact ⟨⟨j + 1, by omega, rfl, by (repeat first | assumption | exact Ext.refl | apply Ext.alloc | apply Ext.drew | (refine Ext.updN ?_ ?_; (focus first | omega | (simp only [szR] <;> omega))) | (refine Ext.updI ?_ ?_; (focus (simp; done)))), hf⟩, by first | omega | (simp <;> omega)⟩
  · obtain rfl : j = 69 := by omega
    have e0 : findN s (69 - 69) 69 = 0 := rfl
    rw [e0] at hf
    rw [← hf] at hK
    simp (disch := first | assumption | omega | (simp only [szR, rwC_len, rwC_all, rwsC_len, rwsC_all, ptC_len, ptC_all] <;> omega) | rfl | decide) only [gen0, gen1, gen2, rulesC, rulesX, litR, bolR, Nat.reduceAdd, Nat.reduceLeDiff, numR, memR, valR, heapR, updR, intR, decR, extR, slR, segR, thenR, pnR, Int.reduceToNat, Int.reduceAdd, Int.reduceSub, Int.reduceLT, Int.reduceLE, Nat.reduceSub, Nat.reduceMul, Nat.reduceEqDiff]
    exact hK _ hx'
end Go.Proofs.YtobkjnmdbkieeaaDoor
