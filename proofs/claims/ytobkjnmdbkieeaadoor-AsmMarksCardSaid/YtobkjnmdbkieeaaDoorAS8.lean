/- A mark's name turned into a number; conditions: those of each theorem. -/
import Derived.Test.YtobkjnmdbkieeaaDoorAS7
import Derived.Test.YtobkjnmdbkieeaaDoorMaps
namespace Go.Proofs.YtobkjnmdbkieeaaDoor
open Go.Fx
set_option maxRecDepth 100000
set_option linter.unusedSimpArgs false
set_option linter.unusedVariables false
theorem check_str {P : Program} {t : TypeId} {e : Bool} {n : Nat} {v : Value} (h : P.underlying t = some .string) (w : World) : (Instr.checkKey e (n + 1) t v).run P w = .ok () w := by
  unfold Instr.checkKey
  rw [Sem.run_bind, run_underlying h]
  rfl
theorem keyS : KeyOk Tryd.prog 9 sV := by
  refine ⟨.inl ⟨_, Tryd.underlying9, fun a b => ?_⟩, fun e a w => check_str Tryd.underlying9 w, fun a => ?_⟩
  · show some ((⟨a.toArray⟩ : ByteArray) == ⟨b.toArray⟩) = some (decide (a = b))
    have e : ((⟨a.toArray⟩ : ByteArray) == ⟨b.toArray⟩) = (a.toArray == b.toArray) := rfl
    rw [e]
    congr 1
    rw [Bool.eq_iff_iff, beq_iff_eq, decide_eq_true_eq]
    constructor
    · intro h
      simpa using h
    · rintro rfl; rfl
  · have e : ((⟨a.toArray⟩ : ByteArray) == ⟨a.toArray⟩) = (a.toArray == a.toArray) := rfl
    simp [sV, Instr.sameBits, e]
def iV64 (n : Int) : Value := .int .i64 n
def mkC (r1 r2 : Nat) : List Value := [.map (some r1), .map (some r2)]
theorem mkC_len (a b : Nat) : (mkC a b).length = 2 := by simp [mkC]
theorem mkC_all (a b : Nat) : (mkC a b).all (fun v => v.oneCell') = true := by simp [mkC]; exact ⟨rfl, rfl⟩
theorem mkC_sub (a b : Nat) : sub (mkC a b) 0 2 = mkC a b := rfl
def toldK (s : List UInt8) : Int := Lib.lastIndex s [32]
def toldSh (s : List UInt8) : Nat := (rowZ (parseOp s)).s
/-- an instruction's text with a number in the place of a mark's name. -/
def toldF (at' times : List UInt8 → Option Int) (s : List UInt8) (n : Int) : List UInt8 :=
  if toldK s < 0 then s else if (times (s.drop (toldK s + 1).toNat)).getD 0 ≠ 1 ∨ (toldSh s ≠ 66 ∧ toldSh s ≠ 74) then s
  else s.take (toldK s + 1).toNat ++ dec (((at' (s.drop (toldK s + 1).toNat)).getD 0 - n) * 4)
theorem lastOcc_lt (s p : List UInt8) : ∀ k : Nat, Lib.lastOcc s p k < k
  | 0 => by unfold Lib.lastOcc; decide
  | k + 1 => by
    have := lastOcc_lt s p k
    rcases h : Lib.occAt s p k with _ | _
    · rw [Lib.lastOcc_miss s p k h]; omega
    · rw [Lib.lastOcc_hit s p k h]; omega
theorem toldK_lt (s : List UInt8) : toldK s < s.length := by
  unfold toldK Lib.lastIndex
  split
  · rename_i h
    have := lastOcc_lt s [32] (s.length - [(32 : UInt8)].length + 1)
    simp at h this ⊢
    omega
  · omega
theorem told_spec {w : World} {r1 r2 : Nat} {A T : List UInt8 → Option Int} {s : List UInt8} {n : Int} (hg : Gm w) (h1 : MapF w r1 sV iV64 A) (h2 : MapF w r2 sV iV64 T) (hA : ∀ x a, A x = some a → 0 ≤ a ∧ a ≤ 1000000) (hs : s.length ≤ 1000000) (hn : 0 ≤ n ∧ n ≤ 1000000) {K : Value → World → Prop}
    (hK : ∀ w', Ext [] w w' → K (.string ⟨(toldF A T s n).toArray⟩) w') : callsK Tryd.prog 35 #[.agg (mkC r1 r2).toArray, .string ⟨s.toArray⟩, .int .i64 n] w K := by
  apply F35_ok
  unfold F35
  have m0 : (mkC r1 r2)[0]? = some (.map (some r1)) := rfl
  have m1 : (mkC r1 r2)[1]? = some (.map (some r2)) := rfl
  have hll : (mkC r1 r2).length = 2 := rfl
  have hla : (mkC r1 r2).all (fun v => v.oneCell') = true := rfl
  simp (disch := first | assumption | omega | (simp only [szR, izC_len, izC_all] <;> omega) | rfl | decide) only [gen0, gen1, gen2, rulesC, rulesX, rulesA, litR, bolR, Nat.reduceAdd, Nat.reduceLeDiff, numR, memR, valR, heapR, updR, intR, decR, extR, slR, segR, thenR, pnR, Int.reduceToNat, Int.reduceAdd, Int.reduceSub, Int.reduceLT, Int.reduceLE, Nat.reduceSub, Nat.reduceMul, Nat.reduceEqDiff, mkC_sub, hll, hla]
  have g3 : (w.alloc (.cells (mkC r1 r2).toArray 79)).heap[w.heap.size]? = some (.cells (mkC r1 r2).toArray 79 (0, 0)) := alloc_at rfl
  have hx0 : Ext [] w (w.alloc (.cells (mkC r1 r2).toArray 79)) := Ext.alloc Ext.refl _ _
  refine LastIndex_spec (s := s) (p := [32]) (by omega) ?_
  have hk1 := toldK_lt s
  have hT : toldF A T s n = if toldK s < 0 then s else if (T (s.drop (toldK s + 1).toNat)).getD 0 ≠ 1 ∨ (toldSh s ≠ 66 ∧ toldSh s ≠ 74) then s else s.take (toldK s + 1).toNat ++ dec (((A (s.drop (toldK s + 1).toNat)).getD 0 - n) * 4) := rfl
  have hkk : Lib.lastIndex s [32] = toldK s := rfl
  have hop : findN (Lib.cut s [32]).1 69 0 = parseOp s := rfl
  have hshd : (rowZ (parseOp s)).s = toldSh s := rfl
  rw [hkk]
  generalize toldF A T s n = tf at *
  generalize toldK s = k at *
  by_cases hk0 : k < 0
  · rw [if_pos hk0] at hT
    rw [hT] at hK
    simp (disch := first | assumption | omega | (simp only [szR, izC_len, izC_all] <;> omega) | rfl | decide) only [gen0, gen1, gen2, rulesC, rulesX, rulesA, litR, bolR, Nat.reduceAdd, Nat.reduceLeDiff, numR, memR, valR, heapR, updR, intR, decR, extR, slR, segR, thenR, pnR, Int.reduceToNat, Int.reduceAdd, Int.reduceSub, Int.reduceLT, Int.reduceLE, Nat.reduceSub, Nat.reduceMul, Nat.reduceEqDiff]
    exact hK _ hx0
  rw [if_neg hk0] at hT
  simp (disch := first | assumption | omega | (simp only [szR, izC_len, izC_all] <;> omega) | rfl | decide) only [gen0, gen1, gen2, rulesC, rulesX, rulesA, litR, bolR, Nat.reduceAdd, Nat.reduceLeDiff, numR, memR, valR, heapR, updR, intR, decR, extR, slR, segR, thenR, pnR, Int.reduceToNat, Int.reduceAdd, Int.reduceSub, Int.reduceLT, Int.reduceLE, Nat.reduceSub, Nat.reduceMul, Nat.reduceEqDiff]
  have l3 := lt_of_at g3
  generalize (w.alloc (.cells (mkC r1 r2).toArray 79)) = w1 at *
  refine Cut_spec (s := s) (p := [32]) (hg.ext hx0) (by omega) fun w2 hx1 => ?_
  have hofl := findN_lt (Lib.cut s [32]).1 69 0 rfl
  have hshok := rowZ_sh (parseOp s)
  rw [hop] at hofl
  rw [hshd] at hshok
  generalize hcc : Lib.cut s [32] = c at *
  simp (disch := first | assumption | omega | (simp only [szR, izC_len, izC_all] <;> omega) | rfl | decide) only [gen0, gen1, gen2, rulesC, rulesX, rulesA, litR, bolR, Nat.reduceAdd, Nat.reduceLeDiff, numR, memR, valR, heapR, updR, intR, decR, extR, slR, segR, thenR, pnR, Int.reduceToNat, Int.reduceAdd, Int.reduceSub, Int.reduceLT, Int.reduceLE, Nat.reduceSub, Nat.reduceMul, Nat.reduceEqDiff]
  refine Find_spec fun w3 hx2 => ?_
  rw [hop]
  refine Shape_spec (n := (parseOp s : Nat)) (by omega) fun w4 hx4 => ?_
  rw [hshd]
  have hxa := (hx1.trans hx2 (by simp)).trans hx4 (by simp)
  have g4 := hxa.at g3 (by simp)
  have hxb := hx0.trans hxa (by simp)
  have l4 := lt_of_at g4
  have hM1 := h1.ext hxb (by simp)
  have hM2 := h2.ext hxb (by simp)
  obtain ⟨kn, hkn⟩ : ∃ kn : Nat, kn = (k + 1).toNat := ⟨_, rfl⟩
  rw [← hkn] at hT
  have ekn : k + 1 = (kn : Int) := by omega
  have hcutA : ∀ w, (Instr.sliceAt 9 (.string ⟨s.toArray⟩) (some (.int .i64 (kn : Nat))) none none).run Tryd.prog w = .ok (.string ⟨(s.drop kn).toArray⟩) w := by
    intro w
    have hsz := size_mk s
    rw [run_cutS Tryd.underlying9 ⟨s.toArray⟩ _ _ (l := kn) (h := s.length) (fun w => by rw [hsz]; exact (slR.2.2.1 _ _ _ _ _ _ (by omega)).trans (by rw [Int.toNat_natCast])), cut_mk]
    rw [List.take_of_length_le (by simp)]
  have hcutB : ∀ w, (Instr.sliceAt 9 (.string ⟨s.toArray⟩) none (some (.int .i64 (kn : Nat))) none).run Tryd.prog w = .ok (.string ⟨(s.take kn).toArray⟩) w := by
    intro w
    have hsz := size_mk s
    rw [run_cutS Tryd.underlying9 ⟨s.toArray⟩ _ _ (l := 0) (h := kn) (fun w => by rw [hsz]; exact (slR.2.1 _ _ _ _ _ _ (by omega)).trans (by rw [Int.toNat_natCast])), cut_mk]
    rw [List.drop_zero, Nat.sub_zero]
  have hzi : ∀ w, (zeroValue 3).run Tryd.prog w = .ok (iV64 0) w := fun w => by rw [Tryd.zeroValue3]; rfl
  have hkT : ∀ w, MapF w r2 sV iV64 T → (Instr.lookup 77 (.map (some r2)) (.string ⟨(s.drop kn).toArray⟩) false).run Tryd.prog w = .ok (.int .i64 ((T (s.drop kn)).getD 0)) w := fun w h => by
    have := run_lookM Tryd.underlying77 keyS hzi h (s.drop kn) false
    rw [show (Value.string ⟨(s.drop kn).toArray⟩) = sV (s.drop kn) from rfl, this]
    cases T (s.drop kn) <;> rfl
  have hkA : ∀ w, MapF w r1 sV iV64 A → (Instr.lookup 77 (.map (some r1)) (.string ⟨(s.drop kn).toArray⟩) false).run Tryd.prog w = .ok (.int .i64 ((A (s.drop kn)).getD 0)) w := fun w h => by
    have := run_lookM Tryd.underlying77 keyS hzi h (s.drop kn) false
    rw [show (Value.string ⟨(s.drop kn).toArray⟩) = sV (s.drop kn) from rfl, this]
    cases A (s.drop kn) <;> rfl
  have hAl : 0 ≤ (A (s.drop kn)).getD 0 ∧ (A (s.drop kn)).getD 0 ≤ 1000000 := by
    cases hA' : A (s.drop kn) with
    | none => decide
    | some a => exact hA _ a hA'
  have hT4 := hkT w4 hM2
  have hT4d := hkT w4.drew (hM2.ext (Ext.refl.drew) (by simp : r2 ∉ ([] : List Nat)))
  have hA4 := hkA w4 hM1
  have hA4d := hkA w4.drew (hM1.ext (Ext.refl.drew) (by simp : r1 ∉ ([] : List Nat)))
  have hA4dd := hkA w4.drew.drew (hM1.ext (Ext.refl.drew.drew) (by simp : r1 ∉ ([] : List Nat)))
  generalize hTv : (T (s.drop kn)).getD 0 = tv at *
  generalize hAv : (A (s.drop kn)).getD 0 = av at *
  generalize toldSh s = sh at *
  by_cases c1 : tv ≠ 1
  · rw [if_pos (.inl c1)] at hT
    rw [hT] at hK
    simp (disch := first | assumption | omega | (simp only [szR, izC_len, izC_all] <;> omega) | rfl | decide) only [gen0, gen1, gen2, rulesC, rulesX, rulesA, litR, bolR, Nat.reduceAdd, Nat.reduceLeDiff, numR, memR, valR, heapR, updR, intR, decR, extR, slR, segR, thenR, pnR, Int.reduceToNat, Int.reduceAdd, Int.reduceSub, Int.reduceLT, Int.reduceLE, Nat.reduceSub, Nat.reduceMul, Nat.reduceEqDiff, joinBR, g4, m1, ekn, hcutA, hT4, hT4d]
    exact hK _ (by (repeat first | assumption | exact Ext.refl | apply Ext.alloc | apply Ext.drew | (refine Ext.updN ?_ ?_; (focus first | omega | (simp only [szR] <;> omega))) | (refine Ext.updI ?_ ?_; (focus (simp; done)))))
  have c1' : tv = 1 := Classical.byContradiction fun h => c1 h
  subst c1'
  by_cases c2 : sh = 66 ∨ sh = 74
  · rw [if_neg (by omega)] at hT
    rw [hT] at hK
    have hdl := dec_len (n := (av - n) * 4)
    have hadd := addS (a := s.take kn) (b := dec ((av - n) * 4)) (by simp; omega)
    have hin : in64 ((av - n) * 4) := ⟨by omega, by omega⟩
    rcases c2 with rfl | rfl
    · simp (disch := first | assumption | omega | (simp only [szR, izC_len, izC_all] <;> omega) | rfl | decide) only [gen0, gen1, gen2, rulesC, rulesX, rulesA, litR, bolR, Nat.reduceAdd, Nat.reduceLeDiff, numR, memR, valR, heapR, updR, intR, decR, extR, slR, segR, thenR, pnR, Int.reduceToNat, Int.reduceAdd, Int.reduceSub, Int.reduceLT, Int.reduceLE, Nat.reduceSub, Nat.reduceMul, Nat.reduceEqDiff, joinBR, g4, m0, m1, ekn, hcutA, hcutB, hT4, hT4d, hA4, hA4d, hA4dd]
      refine digits_spec hin fun w9 hx9 => ?_
      simp (disch := first | assumption | omega | (simp only [szR, izC_len, izC_all] <;> omega) | rfl | decide) only [gen0, gen1, gen2, rulesC, rulesX, rulesA, litR, bolR, Nat.reduceAdd, Nat.reduceLeDiff, numR, memR, valR, heapR, updR, intR, decR, extR, slR, segR, thenR, pnR, Int.reduceToNat, Int.reduceAdd, Int.reduceSub, Int.reduceLT, Int.reduceLE, Nat.reduceSub, Nat.reduceMul, Nat.reduceEqDiff, joinBR, hadd]
      exact hK _ ((Ext.trans (S := []) (by (repeat first | assumption | exact Ext.refl | apply Ext.alloc | apply Ext.drew | (refine Ext.updN ?_ ?_; (focus first | omega | (simp only [szR] <;> omega))) | (refine Ext.updI ?_ ?_; (focus (simp; done))))) hx9 (by simp)))
    · simp (disch := first | assumption | omega | (simp only [szR, izC_len, izC_all] <;> omega) | rfl | decide) only [gen0, gen1, gen2, rulesC, rulesX, rulesA, litR, bolR, Nat.reduceAdd, Nat.reduceLeDiff, numR, memR, valR, heapR, updR, intR, decR, extR, slR, segR, thenR, pnR, Int.reduceToNat, Int.reduceAdd, Int.reduceSub, Int.reduceLT, Int.reduceLE, Nat.reduceSub, Nat.reduceMul, Nat.reduceEqDiff, joinBR, g4, m0, m1, ekn, hcutA, hcutB, hT4, hT4d, hA4, hA4d, hA4dd]
      refine digits_spec hin fun w9 hx9 => ?_
      simp (disch := first | assumption | omega | (simp only [szR, izC_len, izC_all] <;> omega) | rfl | decide) only [gen0, gen1, gen2, rulesC, rulesX, rulesA, litR, bolR, Nat.reduceAdd, Nat.reduceLeDiff, numR, memR, valR, heapR, updR, intR, decR, extR, slR, segR, thenR, pnR, Int.reduceToNat, Int.reduceAdd, Int.reduceSub, Int.reduceLT, Int.reduceLE, Nat.reduceSub, Nat.reduceMul, Nat.reduceEqDiff, joinBR, hadd]
      exact hK _ ((Ext.trans (S := []) (by (repeat first | assumption | exact Ext.refl | apply Ext.alloc | apply Ext.drew | (refine Ext.updN ?_ ?_; (focus first | omega | (simp only [szR] <;> omega))) | (refine Ext.updI ?_ ?_; (focus (simp; done))))) hx9 (by simp)))
  · rw [if_pos (.inr (by omega))] at hT
    rw [hT] at hK
    simp (disch := first | assumption | omega | (simp only [szR, izC_len, izC_all] <;> omega) | rfl | decide) only [gen0, gen1, gen2, rulesC, rulesX, rulesA, litR, bolR, Nat.reduceAdd, Nat.reduceLeDiff, numR, memR, valR, heapR, updR, intR, decR, extR, slR, segR, thenR, pnR, Int.reduceToNat, Int.reduceAdd, Int.reduceSub, Int.reduceLT, Int.reduceLE, Nat.reduceSub, Nat.reduceMul, Nat.reduceEqDiff, joinBR, g4, m1, ekn, hcutA, hT4, hT4d]
    exact hK _ (by (repeat first | assumption | exact Ext.refl | apply Ext.alloc | apply Ext.drew | (refine Ext.updN ?_ ?_; (focus first | omega | (simp only [szR] <;> omega))) | (refine Ext.updI ?_ ?_; (focus (simp; done)))))
end Go.Proofs.YtobkjnmdbkieeaaDoor
