/- The fields of a span, and the span of fields: both texts; conditions: those of each theorem. -/
import Derived.Test.YtplfniijbeinmaaGreatField
namespace Go.Proofs.YtplfniijbeinmaaGreat
open Go.Fx
set_option maxRecDepth 100000
set_option linter.unusedSimpArgs false
set_option linter.unusedVariables false
/-- a span's end or none. -/
def spn (B T E a : Nat) : Option (Nat × Nat) :=
  if 37 < E ∨ 281474976710656 ≤ a then none
  else if a / 2 ^ (E - 1) + 4096 < (a / 2 ^ (E - 1) + 16384 - B + 4096) % 16384 then none
  else if 281474976710656 / 2 ^ (E - 1) < a / 2 ^ (E - 1) + 4096 - (a / 2 ^ (E - 1) + 16384 - B + 4096) % 16384 + ((T + 16384 - B) % 4096 + if 0 < E then 4096 else 0) then none
  else some ((a / 2 ^ (E - 1) + 4096 - (a / 2 ^ (E - 1) + 16384 - B + 4096) % 16384) * 2 ^ (E - 1), (a / 2 ^ (E - 1) + 4096 - (a / 2 ^ (E - 1) + 16384 - B + 4096) % 16384 + ((T + 16384 - B) % 4096 + if 0 < E then 4096 else 0)) * 2 ^ (E - 1))
def spB (o : Option (Nat × Nat)) : Nat := (o.getD (0, 0)).1
def spT (o : Option (Nat × Nat)) : Nat := (o.getD (0, 0)).2
def spC (o : Option (Nat × Nat)) : List Value := [.int .u64 (spB o : Nat), .int .u64 (spT o : Nat)]
def fdsC (B T E : Nat) : List Value := [.int .u64 B, .int .u64 T, .int .u64 E]
theorem shift_spec {w : World} {e : Nat} (he : e < 64) {K : Value → World → Prop} (hK : K (.int .i64 ((e - 1 : Nat) : Int)) w) : callsK Tryz.prog 49 #[.int .u64 e] w K := by
  have hm : max (e : Int) 1 - 1 = ((e - 1 : Nat) : Int) := by omega
  have hm2 : 1 ≤ max (e : Int) 1 ∧ max (e : Int) 1 ≤ 64 := by omega
  apply F49_ok
  unfold F49
  obtain ⟨x, hx⟩ : ∃ x, x = max (e : Int) 1 := ⟨_, rfl⟩
  rw [← hx] at hm hm2
  simp (disch := first | assumption | omega | (simp only [szR, fdsC_len, fdsC_all, wdsC_len, wdsC_all] <;> omega) | rfl | decide) only [gen0, gen1, gen2, rulesC, litR, bolR, Nat.reduceAdd, Nat.reduceLeDiff, numR, memR, valR, heapR, updR, intR, decR, extR, slR, segR, thenR, pnR, Int.reduceToNat, Int.reduceAdd, Int.reduceSub, Int.reduceLT, Int.reduceLE, Nat.reduceSub, Nat.reduceMul, Nat.reduceEqDiff, mnR, ← hx, hm]
  exact hK
def wdsC : List Value := [.int .i64 14, .int .i64 12, .int .i64 6]
theorem widths_spec {w : World} {K : Value → World → Prop} (hK : ∀ w', Ext [] w w' → K (.agg wdsC.toArray) w') : callsK Tryz.prog 85 #[] w K := by
  apply F85_ok
  unfold F85
  simp (disch := first | assumption | omega | (simp only [szR, fdsC_len, fdsC_all, wdsC_len, wdsC_all] <;> omega) | rfl | decide) only [gen0, gen1, gen2, rulesC, litR, bolR, Nat.reduceAdd, Nat.reduceLeDiff, numR, memR, valR, heapR, updR, intR, decR, extR, slR, segR, thenR, pnR, Int.reduceToNat, Int.reduceAdd, Int.reduceSub, Int.reduceLT, Int.reduceLE, Nat.reduceSub, Nat.reduceMul, Nat.reduceEqDiff]
  exact hK _ (by (repeat first | assumption | exact Ext.refl | apply Ext.alloc | apply Ext.drew | (refine Ext.updN ?_ ?_; (focus first | omega | (simp only [szR] <;> omega))) | (refine Ext.updI ?_ ?_; (focus (simp; done)))))
theorem three {p : Nat → Prop} (h : p 0 ∧ p 1 ∧ p 2) {k : Nat} (hk : k < 3) : p k := by
  rcases (by omega : k = 0 ∨ k = 1 ∨ k = 2) with rfl | rfl | rfl
  all_goals simp [h]
def wAt (k : Nat) : Nat := if k = 0 then 14 else if k = 1 then 12 else 6
def aAt (k : Nat) : Nat := if k = 0 then 0 else if k = 1 then 14 else if k = 2 then 26 else 32
def fAt (B T E k : Nat) : Nat := if k = 0 then B else if k = 1 then T else E
theorem wds_get {k : Nat} (h : k < 3) : wdsC[k]? = some (.int .i64 (wAt k)) := three (p := fun k => wdsC[k]? = some (.int .i64 (wAt k))) ⟨rfl, rfl, rfl⟩ h
theorem fds_get {B T E k : Nat} (h : k < 3) : (fdsC B T E)[k]? = some (.int .u64 (fAt B T E k)) := three (p := fun k => (fdsC B T E)[k]? = some (.int .u64 (fAt B T E k))) ⟨rfl, rfl, rfl⟩ h
theorem aAt_succ {k : Nat} (h : k < 3) : (aAt k : Int) + (wAt k : Int) = (aAt (k + 1) : Int) := three (p := fun k => (aAt k : Int) + (wAt k : Int) = (aAt (k + 1) : Int)) ⟨rfl, rfl, rfl⟩ h
theorem aw_le {k : Nat} (h : k < 3) : 0 < wAt k ∧ wAt k < 64 ∧ aAt k + wAt k ≤ 32 := three (p := fun k => 0 < wAt k ∧ wAt k < 64 ∧ aAt k + wAt k ≤ 32) ⟨by decide, by decide, by decide⟩ h
theorem wdsC_len : wdsC.length = 3 := by simp [wdsC]
theorem wdsC_all : wdsC.all (fun v => v.oneCell') = true := by simp [wdsC]; exact ⟨rfl, rfl, rfl⟩
theorem fdsC_len (B T E : Nat) : (fdsC B T E).length = 3 := by simp [fdsC]
theorem fdsC_all (B T E : Nat) : (fdsC B T E).all (fun v => v.oneCell') = true := by simp [fdsC]; exact ⟨rfl, rfl, rfl⟩
theorem fdsC_sub (B T E : Nat) : sub (fdsC B T E) 0 3 = fdsC B T E := rfl
/-- the number of the first fields. -/
def wordF (B T E : Nat) : Nat → Nat
  | 0 => 0
  | k + 1 => wordF B T E k + fAt B T E k % 2 ^ wAt k * 2 ^ aAt k
theorem wordF_lt (B T E : Nat) {k : Nat} (hk : k ≤ 3) : wordF B T E k < 2 ^ aAt k := by
  have h0 : B % 16384 < 16384 := Nat.mod_lt _ (by decide)
  have h1 : T % 4096 < 4096 := Nat.mod_lt _ (by decide)
  have h2 : E % 64 < 64 := Nat.mod_lt _ (by decide)
  rcases (by omega : k = 0 ∨ k = 1 ∨ k = 2 ∨ k = 3) with rfl | rfl | rfl | rfl
  · show 0 < 2 ^ 0
    decide
  · show 0 + B % 2 ^ 14 * 2 ^ 0 < 2 ^ 14
    simp
    omega
  · show 0 + B % 2 ^ 14 * 2 ^ 0 + T % 2 ^ 12 * 2 ^ 14 < 2 ^ 26
    simp
    omega
  · show 0 + B % 2 ^ 14 * 2 ^ 0 + T % 2 ^ 12 * 2 ^ 14 + E % 2 ^ 6 * 2 ^ 26 < 2 ^ 32
    simp
    omega
theorem BWord_spec {w : World} {B T E : Nat} (hB : B < 18446744073709551616) (hT : T < 18446744073709551616) (hE : E < 18446744073709551616) {K : Value → World → Prop} (hK : ∀ w', Ext [] w w' → K (.int .u64 (wordF B T E 3 : Nat)) w') : callsK Tryz.prog 50 #[.agg (fdsC B T E).toArray] w K := by
  apply F50_ok
  unfold F50
  have hf : fdsC B T E = [.int .u64 B, .int .u64 T, .int .u64 E] := rfl
  rw [hf]
  simp (disch := first | assumption | omega | (simp only [szR, fdsC_len, fdsC_all, wdsC_len, wdsC_all] <;> omega) | rfl | decide) only [gen0, gen1, gen2, rulesC, litR, bolR, Nat.reduceAdd, Nat.reduceLeDiff, numR, memR, valR, heapR, updR, intR, decR, extR, slR, segR, thenR, pnR, Int.reduceToNat, Int.reduceAdd, Int.reduceSub, Int.reduceLT, Int.reduceLE, Nat.reduceSub, Nat.reduceMul, Nat.reduceEqDiff]
  refine widths_spec fun w1 hx1 => ?_
  have hk1 := kept0 hx1
  have c5 : w1.heap[w.heap.size + 1]? = some (.cells (fdsC B T E).toArray 173 (0, 0)) := by
    rw [hf]
    exact (by first | with_reducible rfl | assumption | (simp (disch := first | assumption | omega | (simp only [szR, fdsC_len, fdsC_all, wdsC_len, wdsC_all] <;> omega) | rfl | decide) only [gen0, gen1, gen2, rulesC, litR, bolR, Nat.reduceAdd, Nat.reduceLeDiff, numR, memR, valR, heapR, updR, intR, decR, extR, slR, segR, thenR, pnR, Int.reduceToNat, Int.reduceAdd, Int.reduceSub, Int.reduceLT, Int.reduceLE, Nat.reduceSub, Nat.reduceMul, Nat.reduceEqDiff, hk1] <;> rfl))
  have hx1w : Ext [] w w1 := Ext.trans (S := []) (by (repeat first | assumption | exact Ext.refl | apply Ext.alloc | apply Ext.drew | (refine Ext.updN ?_ ?_; (focus first | omega | (simp only [szR] <;> omega))) | (refine Ext.updI ?_ ?_; (focus (simp; done))))) hx1 (by simp)
  refine loopT.intro (fun st w' => ∃ (k : Nat), k ≤ 3 ∧ st = [.int .u64 (wordF B T E k : Nat), .int .i64 (aAt k : Nat), .int .i64 k] ∧ Ext [] w1 w')
    (fun st _ => match st with
      | [_, _, .int _ z] => 3 - z.toNat
      | _ => 0) ⟨0, by omega, rfl, Ext.refl⟩ ?_
  rintro st w' ⟨k, hk, rfl, hx⟩ _
  have c5' := hx.at c5 (by simp)
  by_cases h3 : k < 3
  · obtain ⟨a1, a2, a3⟩ := aw_le h3
    have hwl := wds_get h3
    have hfl := fds_get (B := B) (T := T) (E := E) h3
    have has := aAt_succ h3
    have hlt := wordF_lt B T E (k := k) (by omega)
    have hfa : fAt B T E k < 18446744073709551616 := by unfold fAt; split; exact hB; split; exact hT; exact hE
    have hs : wordF B T E (k + 1) = wordF B T E k + fAt B T E k % 2 ^ wAt k * 2 ^ aAt k := rfl
    simp (disch := first | assumption | omega | (simp only [szR, fdsC_len, fdsC_all, wdsC_len, wdsC_all] <;> omega) | rfl | decide) only [gen0, gen1, gen2, rulesC, litR, bolR, Nat.reduceAdd, Nat.reduceLeDiff, numR, memR, valR, heapR, updR, intR, decR, extR, slR, segR, thenR, pnR, Int.reduceToNat, Int.reduceAdd, Int.reduceSub, Int.reduceLT, Int.reduceLE, Nat.reduceSub, Nat.reduceMul, Nat.reduceEqDiff, c5', hwl, hfl, wdsC_len, fdsC_len]
    refine fPut_spec (by omega) (by omega) (by omega) (by rw [Int.toNat_natCast]; exact hlt) hfa fun w2 hx2 => ?_
    rw [Int.toNat_natCast, Int.toNat_natCast, ← hs]
    simp (disch := first | assumption | omega | (simp only [szR, fdsC_len, fdsC_all, wdsC_len, wdsC_all] <;> omega) | rfl | decide) only [gen0, gen1, gen2, rulesC, litR, bolR, Nat.reduceAdd, Nat.reduceLeDiff, numR, memR, valR, heapR, updR, intR, decR, extR, slR, segR, thenR, pnR, Int.reduceToNat, Int.reduceAdd, Int.reduceSub, Int.reduceLT, Int.reduceLE, Nat.reduceSub, Nat.reduceMul, Nat.reduceEqDiff, has]
    exact ⟨⟨k + 1, by omega, rfl, hx.trans (Ext.trans (S := []) (by (repeat first | assumption | exact Ext.refl | apply Ext.alloc | apply Ext.drew | (refine Ext.updN ?_ ?_; (focus first | omega | (simp only [szR] <;> omega))) | (refine Ext.updI ?_ ?_; (focus (simp; done))))) hx2 (by simp)) (by simp)⟩, by simp; omega⟩
  · obtain rfl : k = 3 := by omega
    simp (disch := first | assumption | omega | (simp only [szR, fdsC_len, fdsC_all, wdsC_len, wdsC_all] <;> omega) | rfl | decide) only [gen0, gen1, gen2, rulesC, litR, bolR, Nat.reduceAdd, Nat.reduceLeDiff, numR, memR, valR, heapR, updR, intR, decR, extR, slR, segR, thenR, pnR, Int.reduceToNat, Int.reduceAdd, Int.reduceSub, Int.reduceLT, Int.reduceLE, Nat.reduceSub, Nat.reduceMul, Nat.reduceEqDiff]
    exact hK _ (hx1w.trans hx (by simp))
theorem BOf_spec {w : World} {x : Nat} (hx : x < 18446744073709551616) {K : Value → World → Prop} (hK : ∀ w', Ext [] w w' → K (.agg (fdsC (x % 16384) (x / 16384 % 4096) (x / 67108864 % 64)).toArray) w') : callsK Tryz.prog 42 #[.int .u64 x] w K := by
  apply F42_ok
  unfold F42
  simp (disch := first | assumption | omega | (simp only [szR, fdsC_len, fdsC_all, wdsC_len, wdsC_all] <;> omega) | rfl | decide) only [gen0, gen1, gen2, rulesC, litR, bolR, Nat.reduceAdd, Nat.reduceLeDiff, numR, memR, valR, heapR, updR, intR, decR, extR, slR, segR, thenR, pnR, Int.reduceToNat, Int.reduceAdd, Int.reduceSub, Int.reduceLT, Int.reduceLE, Nat.reduceSub, Nat.reduceMul, Nat.reduceEqDiff]
  refine widths_spec fun w1 hx1 => ?_
  have hk1 := kept0 hx1
  have hx1w : Ext [] w w1 := Ext.trans (S := []) (by (repeat first | assumption | exact Ext.refl | apply Ext.alloc | apply Ext.drew | (refine Ext.updN ?_ ?_; (focus first | omega | (simp only [szR] <;> omega))) | (refine Ext.updI ?_ ?_; (focus (simp; done))))) hx1 (by simp)
  have hs1 := hx1.size
  simp only [szR] at hs1
  have c2 : w1.heap[w.heap.size]? = some (.cells (fdsC 0 0 0).toArray 69 (0, 0)) := (by first | with_reducible rfl | assumption | (simp (disch := first | assumption | omega | (simp only [szR, fdsC_len, fdsC_all, wdsC_len, wdsC_all] <;> omega) | rfl | decide) only [gen0, gen1, gen2, rulesC, litR, bolR, Nat.reduceAdd, Nat.reduceLeDiff, numR, memR, valR, heapR, updR, intR, decR, extR, slR, segR, thenR, pnR, Int.reduceToNat, Int.reduceAdd, Int.reduceSub, Int.reduceLT, Int.reduceLE, Nat.reduceSub, Nat.reduceMul, Nat.reduceEqDiff, hk1] <;> rfl))
  have c3 : w1.heap[w.heap.size + 1]? = some (.cells (fdsC 0 0 0).toArray 173 (0, 0)) := (by first | with_reducible rfl | assumption | (simp (disch := first | assumption | omega | (simp only [szR, fdsC_len, fdsC_all, wdsC_len, wdsC_all] <;> omega) | rfl | decide) only [gen0, gen1, gen2, rulesC, litR, bolR, Nat.reduceAdd, Nat.reduceLeDiff, numR, memR, valR, heapR, updR, intR, decR, extR, slR, segR, thenR, pnR, Int.reduceToNat, Int.reduceAdd, Int.reduceSub, Int.reduceLT, Int.reduceLE, Nat.reduceSub, Nat.reduceMul, Nat.reduceEqDiff, hk1] <;> rfl))
  refine loopT.intro (fun st w' => ∃ (k : Nat), k ≤ 3 ∧ st = [.int .i64 (aAt k : Nat), .int .i64 k] ∧ w'.heap[w.heap.size]? = some (.cells (fdsC 0 0 0).toArray 69 (0, 0)) ∧ w'.heap[w.heap.size + 1]? = some (.cells (fdsC (if 0 < k then x % 16384 else 0) (if 1 < k then x / 16384 % 4096 else 0) (if 2 < k then x / 67108864 % 64 else 0)).toArray 173 (0, 0)) ∧ Ext [] w w')
    (fun st _ => match st with
      | [_, .int _ z] => 3 - z.toNat
      | _ => 0) ⟨0, by omega, rfl, c2, c3, hx1w⟩ ?_
  rintro st w' ⟨k, hk, rfl, d2, d3, hxw⟩ _
  have l2 := lt_of_at d2
  have l3 := lt_of_at d3
  by_cases h3 : k < 3
  · obtain ⟨a1, a2, a3⟩ := aw_le h3
    have hwl := wds_get h3
    have has := aAt_succ h3
    simp (disch := first | assumption | omega | (simp only [szR, fdsC_len, fdsC_all, wdsC_len, wdsC_all] <;> omega) | rfl | decide) only [gen0, gen1, gen2, rulesC, litR, bolR, Nat.reduceAdd, Nat.reduceLeDiff, numR, memR, valR, heapR, updR, intR, decR, extR, slR, segR, thenR, pnR, Int.reduceToNat, Int.reduceAdd, Int.reduceSub, Int.reduceLT, Int.reduceLE, Nat.reduceSub, Nat.reduceMul, Nat.reduceEqDiff, hwl, wdsC_len]
    refine fGet_spec (by omega) (by omega) (by omega) hx fun w2 hx2 => ?_
    have d2 := hx2.at d2 (by simp)
    have d3 := hx2.at d3 (by simp)
    have hset : (fdsC (if 0 < k then x % 16384 else 0) (if 1 < k then x / 16384 % 4096 else 0) (if 2 < k then x / 67108864 % 64 else 0)).set k (.int .u64 ((x / 2 ^ aAt k % 2 ^ wAt k : Nat) : Int)) = fdsC (if 0 < k + 1 then x % 16384 else 0) (if 1 < k + 1 then x / 16384 % 4096 else 0) (if 2 < k + 1 then x / 67108864 % 64 else 0) := by
      rcases (by omega : k = 0 ∨ k = 1 ∨ k = 2) with rfl | rfl | rfl
      · simp [fdsC, aAt, wAt]
      · simp [fdsC, aAt, wAt]
      · simp [fdsC, aAt, wAt]
    have hxw2 := hxw.trans hx2 (by simp)
    simp (disch := first | assumption | omega | (simp only [szR, fdsC_len, fdsC_all, wdsC_len, wdsC_all] <;> omega) | rfl | decide) only [gen0, gen1, gen2, rulesC, litR, bolR, Nat.reduceAdd, Nat.reduceLeDiff, numR, memR, valR, heapR, updR, intR, decR, extR, slR, segR, thenR, pnR, Int.reduceToNat, Int.reduceAdd, Int.reduceSub, Int.reduceLT, Int.reduceLE, Nat.reduceSub, Nat.reduceMul, Nat.reduceEqDiff, d3, fdsC_len, has, hset]
    exact ⟨⟨k + 1, by omega, rfl, by first | exact d2 | exact (upd_ne (by omega)).trans d2, by first | rfl | exact upd_at d3, Ext.updN (by omega) hxw2⟩, by simp; omega⟩
  · obtain rfl : k = 3 := by omega
    simp only [fdsC] at d2 d3
    simp (disch := first | assumption | omega | (simp only [szR, fdsC_len, fdsC_all, wdsC_len, wdsC_all] <;> omega) | rfl | decide) only [gen0, gen1, gen2, rulesC, litR, bolR, Nat.reduceAdd, Nat.reduceLeDiff, numR, memR, valR, heapR, updR, intR, decR, extR, slR, segR, thenR, pnR, Int.reduceToNat, Int.reduceAdd, Int.reduceSub, Int.reduceLT, Int.reduceLE, Nat.reduceSub, Nat.reduceMul, Nat.reduceEqDiff, d2, d3]
    exact hK _ (by (repeat first | assumption | exact Ext.refl | apply Ext.alloc | apply Ext.drew | (refine Ext.updN ?_ ?_; (focus first | omega | (simp only [szR] <;> omega))) | (refine Ext.updI ?_ ?_; (focus (simp; done)))))
end Go.Proofs.YtplfniijbeinmaaGreat
