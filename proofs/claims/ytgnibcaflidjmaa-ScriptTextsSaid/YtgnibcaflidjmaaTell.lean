/- Permissions, whole numbers and capabilities as texts: both texts; conditions: those of each theorem. -/
import Derived.Test.YtgnibcaflidjmaaHex
import Derived.Test.YtgnibcaflidjmaaGC
namespace Go.Proofs.Ytgnibcaflidjmaa
open Go.Fx
set_option maxRecDepth 100000
set_option linter.unusedSimpArgs false
set_option linter.unusedVariables false
def ltrB : ByteArray := ⟨#[114, 119, 120, 82, 87, 115, 117, 83, 103]⟩
def ltr (k : Nat) : Int := [114, 119, 120, 82, 87, 115, 117, 83, 103].getD k 0
/-- the letters of the first permissions. -/
def ptK (p : Nat) : Nat → List Int
  | 0 => []
  | k + 1 => ptK p k ++ if p / 2 ^ k % 2 = 1 then [ltr k] else []
theorem ptK_len (p : Nat) : ∀ k, (ptK p k).length ≤ k
  | 0 => Nat.le_refl _
  | k + 1 => by
    have := ptK_len p k
    unfold ptK
    split <;> simp <;> omega
theorem nine {p : Nat → Prop} (h : p 0 ∧ p 1 ∧ p 2 ∧ p 3 ∧ p 4 ∧ p 5 ∧ p 6 ∧ p 7 ∧ p 8) {k : Nat} (hk : k < 9) : p k := by
  rcases (by omega : k = 0 ∨ k = 1 ∨ k = 2 ∨ k = 3 ∨ k = 4 ∨ k = 5 ∨ k = 6 ∨ k = 7 ∨ k = 8) with rfl | rfl | rfl | rfl | rfl | rfl | rfl | rfl | rfl
  all_goals simp [h]
theorem ltr_cut {d : Nat} (h : d < 9) : ltrB.extract d (d + 1) = strOfNums [ltr d] :=
  nine (p := fun d => ltrB.extract d (d + 1) = strOfNums [ltr d]) ⟨rfl, rfl, rfl, rfl, rfl, rfl, rfl, rfl, rfl⟩ h
theorem ltr_ix {d : Nat} (h : d < 9) (w : World) : (Instr.index 9 (.string ltrB) (.int .i64 (d : Int))).run Try.prog w = .ok (.int .u8 (ltr d)) w := by
  have key : ∀ (hd : d < ltrB.size), ((ltrB[d].toNat : Nat) : Int) = ltr d :=
    nine (p := fun d => ∀ (hd : d < ltrB.size), ((ltrB[d].toNat : Nat) : Int) = ltr d) ⟨fun _ => rfl, fun _ => rfl, fun _ => rfl, fun _ => rfl, fun _ => rfl, fun _ => rfl, fun _ => rfl, fun _ => rfl, fun _ => rfl⟩ h
  have hs : ltrB.size = 9 := rfl
  rw [run_index_string w 9 ltrB .i64 (d : Int) Try.underlying9, dif_pos ⟨by omega, by rw [hs]; omega⟩]
  simp only [Int.toNat_natCast]
  rw [key]
theorem mask1 (k : IntKind) (hk : 1 < k.bits) (z : Int) : bitI .and k z 1 = z % 2 := and_mask (k := k) (n := 1) hk
theorem Perm_spec {w : World} {p : Nat} (hp : p < 512) {K : Value → World → Prop} (hK : ∀ w', Ext [] w w' → K (.string (strOfNums (ptK p 9))) w') : callsK Try.prog 59 #[.int .u64 p] w K := by
  have hs : (⟨#[114, 119, 120, 82, 87, 115, 117, 83, 103]⟩ : ByteArray) = ltrB := rfl
  apply F59_ok
  unfold F59
  refine loopT.intro (fun st w' => ∃ (k : Nat) (v : Value), k ≤ 9 ∧ st = [v, .int .i64 k] ∧ OwnR w' w.heap.size 5 1 v ((ptK p k).map u8C) ∧ (ptK p k = [] → v = .slice none 0 0) ∧ Ext [] w w')
    (fun st _ => match st with
      | [_, .int _ z] => 9 - z.toNat
      | _ => 0) ⟨0, _, by omega, rfl, OwnR.nil, fun _ => rfl, Ext.refl⟩ ?_
  rintro st w' ⟨k, v, hk, rfl, ho, hn, hx⟩ _
  have hpl := ptK_len p k
  by_cases h9 : k < 9
  · have hfd := fdivP (v := p) k
    obtain ⟨q, hq⟩ : ∃ q, q = p / 2 ^ k := ⟨_, rfl⟩
    rw [← hq] at hfd
    have hqp : q ≤ p := by rw [hq]; exact Nat.div_le_self _ _
    have hm := mask1 .u64 (by decide) (q : Int)
    have hix := ltr_ix h9
    have hs1 : ptK p (k + 1) = ptK p k ++ if q % 2 = 1 then [ltr k] else [] := by rw [hq]; rfl
    simp (disch := first | assumption | omega | (simp only [szR] <;> omega) | rfl | decide) only [gen0, gen1, gen2, rulesC, litR, bolR, Nat.reduceAdd, Nat.reduceLeDiff, numR, memR, valR, heapR, updR, intR, decR, extR, slR, segR, thenR, pnR, Int.reduceToNat, Int.reduceAdd, Int.reduceSub, Int.reduceLT, Int.reduceLE, Nat.reduceSub, Nat.reduceMul, Nat.reduceEqDiff]
    refine joinL.intro fun J2 hJ2 => ?_
    have hrest : ∀ v2 w2, OwnR w2 w.heap.size 5 1 v2 ((ptK p (k + 1)).map u8C) → (ptK p (k + 1) = [] → v2 = .slice none 0 0) → Ext [] w w2 → J2 [v2] w2 := by
      intro v2 w2 h1 h2 h3
      apply hJ2
      intro _
      simp (disch := first | assumption | omega | (simp only [szR] <;> omega) | rfl | decide) only [gen0, gen1, gen2, rulesC, litR, bolR, Nat.reduceAdd, Nat.reduceLeDiff, numR, memR, valR, heapR, updR, intR, decR, extR, slR, segR, thenR, pnR, Int.reduceToNat, Int.reduceAdd, Int.reduceSub, Int.reduceLT, Int.reduceLE, Nat.reduceSub, Nat.reduceMul, Nat.reduceEqDiff]
      exact ⟨⟨k + 1, v2, by omega, rfl, h1, h2, h3⟩, by simp; omega⟩
    clear hJ2 hK
    by_cases hb : q % 2 = 1
    · rw [if_pos hb] at hs1
      have hx1 : Ext [] w' (w'.alloc (.cells [.int .u8 (ltr k)].toArray 5)) := by (repeat first | assumption | exact Ext.refl | apply Ext.alloc | apply Ext.drew | (refine Ext.updN ?_ ?_; (focus first | omega | (simp only [szR] <;> omega))) | (refine Ext.updI ?_ ?_; (focus (simp; done))))
      have hbz : (q : Int) % 2 = 1 := by omega
      simp (disch := first | assumption | omega | (simp only [szR] <;> omega) | rfl | decide) only [gen0, gen1, gen2, rulesC, litR, bolR, Nat.reduceAdd, Nat.reduceLeDiff, numR, memR, valR, heapR, updR, intR, decR, extR, slR, segR, thenR, pnR, Int.reduceToNat, Int.reduceAdd, Int.reduceSub, Int.reduceLT, Int.reduceLE, Nat.reduceSub, Nat.reduceMul, Nat.reduceEqDiff, hfd, hm, hbz, hs, hix]
      refine app31d (rows2 := [u8C (ltr k)]) (ho.ext hx1 (by simp)) (OwnR.fresh (base := 0) (size := 1) rfl rfl (Nat.zero_le _)).rows (fun r hr => by rw [List.mem_singleton.1 hr]; rfl) (by simp; omega) (by have := hx.size; simp only [szR]; omega) fun v2 w2 ho2 ha2 => ?_
      refine hrest v2 w2 (by rw [hs1, List.map_append]; exact ho2) (fun h => by rw [hs1] at h; simp at h) (ha2.ext w [] (Nat.le_refl _) (hx.trans hx1 (by simp)))
    · rw [if_neg hb, List.append_nil] at hs1
      have hbz : (q : Int) % 2 = 0 := by omega
      simp (disch := first | assumption | omega | (simp only [szR] <;> omega) | rfl | decide) only [gen0, gen1, gen2, rulesC, litR, bolR, Nat.reduceAdd, Nat.reduceLeDiff, numR, memR, valR, heapR, updR, intR, decR, extR, slR, segR, thenR, pnR, Int.reduceToNat, Int.reduceAdd, Int.reduceSub, Int.reduceLT, Int.reduceLE, Nat.reduceSub, Nat.reduceMul, Nat.reduceEqDiff, hfd, hm, hbz]
      exact hrest v w' (by rw [hs1]; exact ho) (fun h => hn (by rw [← hs1]; exact h)) hx
  · obtain rfl : k = 9 := by omega
    simp (disch := first | assumption | omega | (simp only [szR] <;> omega) | rfl | decide) only [gen0, gen1, gen2, rulesC, litR, bolR, Nat.reduceAdd, Nat.reduceLeDiff, numR, memR, valR, heapR, updR, intR, decR, extR, slR, segR, thenR, pnR, Int.reduceToNat, Int.reduceAdd, Int.reduceSub, Int.reduceLT, Int.reduceLE, Nat.reduceSub, Nat.reduceMul, Nat.reduceEqDiff]
    refine joinL.intro fun J4 hJ4 => ?_
    simp (disch := first | assumption | omega | (simp only [szR] <;> omega) | rfl | decide) only [gen0, gen1, gen2, rulesC, litR, bolR, Nat.reduceAdd, Nat.reduceLeDiff, numR, memR, valR, heapR, updR, intR, decR, extR, slR, segR, thenR, pnR, Int.reduceToNat, Int.reduceAdd, Int.reduceSub, Int.reduceLT, Int.reduceLE, Nat.reduceSub, Nat.reduceMul, Nat.reduceEqDiff]
    apply hJ4
    intro _
    by_cases h0 : ptK p 9 = []
    · rw [h0] at hK
      have := hn h0
      subst this
      have hc : ∀ w, (convert 60 9 (.slice none 0 0)).run Try.prog w = .ok (.string (strOfNums [])) w := fun w => run_convert_bytes_nil w 60 5 Try.underlying60 Try.underlying5 0 0 9 Try.underlying9
      simp (disch := first | assumption | omega | (simp only [szR] <;> omega) | rfl | decide) only [gen0, gen1, gen2, rulesC, litR, bolR, Nat.reduceAdd, Nat.reduceLeDiff, numR, memR, valR, heapR, updR, intR, decR, extR, slR, segR, thenR, pnR, Int.reduceToNat, Int.reduceAdd, Int.reduceSub, Int.reduceLT, Int.reduceLE, Nat.reduceSub, Nat.reduceMul, Nat.reduceEqDiff, hc]
      exact hK _ hx
    · have htxt := text_of_rows (P := Try.prog) Try.underlying60 Try.underlying5 Try.underlying9 ho.rows h0
      simp (disch := first | assumption | omega | (simp only [szR] <;> omega) | rfl | decide) only [gen0, gen1, gen2, rulesC, litR, bolR, Nat.reduceAdd, Nat.reduceLeDiff, numR, memR, valR, heapR, updR, intR, decR, extR, slR, segR, thenR, pnR, Int.reduceToNat, Int.reduceAdd, Int.reduceSub, Int.reduceLT, Int.reduceLE, Nat.reduceSub, Nat.reduceMul, Nat.reduceEqDiff, htxt]
      exact hK _ hx
theorem RPerm_spec {w : World} {p : Nat} (hp : p < 512) {K : Value → World → Prop} (hK : ∀ w', Ext [] w w' → K (.string (strOfNums (ptK p 9))) w') : callsK Try.prog 54 #[.int .u64 p] w K := by
  have hs : (⟨#[114, 119, 120, 82, 87, 115, 117, 83, 103]⟩ : ByteArray) = ltrB := rfl
  apply F54_ok
  unfold F54
  refine loopT.intro (fun st w' => ∃ (k : Nat), k ≤ 9 ∧ st = [.string (strOfNums (ptK p k)), .int .i64 k] ∧ Ext [] w w')
    (fun st _ => match st with
      | [_, .int _ z] => 9 - z.toNat
      | _ => 0) ⟨0, by omega, rfl, Ext.refl⟩ ?_
  rintro st w' ⟨k, hk, rfl, hx⟩ _
  have hpl := ptK_len p k
  by_cases h9 : k < 9
  · have hfd := fdivP (v := p) k
    obtain ⟨q, hq⟩ : ∃ q, q = p / 2 ^ k := ⟨_, rfl⟩
    rw [← hq] at hfd
    have hqp : q ≤ p := by rw [hq]; exact Nat.div_le_self _ _
    have hm := mask1 .u64 (by decide) (q : Int)
    have hc := ltr_cut h9
    have hcut : ∀ w, (Instr.sliceAt 9 (.string ltrB) (some (.int .i64 (k : Int))) (some (.int .i64 ((k : Int) + 1))) none).run Try.prog w = .ok (.string (strOfNums [ltr k])) w := by
      intro w
      rw [run_cutS Try.underlying9 _ _ _ (l := k) (h := k + 1) (fun w => (slR.2.2.2.1 _ _ _ _ _ _ _ _ ⟨by omega, by omega, by show (k : Int) + 1 ≤ ((9 : Nat) : Int); omega⟩).trans (by rw [show ((k : Int) + 1).toNat = k + 1 by omega, Int.toNat_natCast])), hc]
    have hs1 : ptK p (k + 1) = ptK p k ++ if q % 2 = 1 then [ltr k] else [] := by rw [hq]; rfl
    have hadd : ∀ x y w, (binV .add 9 x y (.string (strOfNums (ptK p k))) (.string (strOfNums [ltr k]))).run Try.prog w = .ok (.string (strOfNums (ptK p k ++ [ltr k]))) w := by
      intro x y w
      rw [run_addS (by rw [strOfNums_size, strOfNums_size]; simp; omega), strApp]
    simp (disch := first | assumption | omega | (simp only [szR] <;> omega) | rfl | decide) only [gen0, gen1, gen2, rulesC, litR, bolR, Nat.reduceAdd, Nat.reduceLeDiff, numR, memR, valR, heapR, updR, intR, decR, extR, slR, segR, thenR, pnR, Int.reduceToNat, Int.reduceAdd, Int.reduceSub, Int.reduceLT, Int.reduceLE, Nat.reduceSub, Nat.reduceMul, Nat.reduceEqDiff]
    refine joinL.intro fun J2 hJ2 => ?_
    have hrest : ∀ w2 t2, t2 = ptK p (k + 1) → Ext [] w w2 → J2 [.string (strOfNums t2)] w2 := by
      rintro w2 t2 rfl h3
      apply hJ2
      intro _
      simp (disch := first | assumption | omega | (simp only [szR] <;> omega) | rfl | decide) only [gen0, gen1, gen2, rulesC, litR, bolR, Nat.reduceAdd, Nat.reduceLeDiff, numR, memR, valR, heapR, updR, intR, decR, extR, slR, segR, thenR, pnR, Int.reduceToNat, Int.reduceAdd, Int.reduceSub, Int.reduceLT, Int.reduceLE, Nat.reduceSub, Nat.reduceMul, Nat.reduceEqDiff]
      exact ⟨⟨k + 1, by omega, rfl, h3⟩, by simp; omega⟩
    clear hJ2 hK
    by_cases hb : q % 2 = 1
    · rw [if_pos hb] at hs1
      have hbz : (q : Int) % 2 = 1 := by omega
      simp (disch := first | assumption | omega | (simp only [szR] <;> omega) | rfl | decide) only [gen0, gen1, gen2, rulesC, litR, bolR, Nat.reduceAdd, Nat.reduceLeDiff, numR, memR, valR, heapR, updR, intR, decR, extR, slR, segR, thenR, pnR, Int.reduceToNat, Int.reduceAdd, Int.reduceSub, Int.reduceLT, Int.reduceLE, Nat.reduceSub, Nat.reduceMul, Nat.reduceEqDiff, hfd, hm, hbz, hs, hcut, hadd]
      exact hrest _ _ hs1.symm hx
    · rw [if_neg hb, List.append_nil] at hs1
      have hbz : (q : Int) % 2 = 0 := by omega
      simp (disch := first | assumption | omega | (simp only [szR] <;> omega) | rfl | decide) only [gen0, gen1, gen2, rulesC, litR, bolR, Nat.reduceAdd, Nat.reduceLeDiff, numR, memR, valR, heapR, updR, intR, decR, extR, slR, segR, thenR, pnR, Int.reduceToNat, Int.reduceAdd, Int.reduceSub, Int.reduceLT, Int.reduceLE, Nat.reduceSub, Nat.reduceMul, Nat.reduceEqDiff, hfd, hm, hbz]
      exact hrest _ _ hs1.symm hx
  · obtain rfl : k = 9 := by omega
    simp (disch := first | assumption | omega | (simp only [szR] <;> omega) | rfl | decide) only [gen0, gen1, gen2, rulesC, litR, bolR, Nat.reduceAdd, Nat.reduceLeDiff, numR, memR, valR, heapR, updR, intR, decR, extR, slR, segR, thenR, pnR, Int.reduceToNat, Int.reduceAdd, Int.reduceSub, Int.reduceLT, Int.reduceLE, Nat.reduceSub, Nat.reduceMul, Nat.reduceEqDiff]
    refine joinL.intro fun J4 hJ4 => ?_
    simp (disch := first | assumption | omega | (simp only [szR] <;> omega) | rfl | decide) only [gen0, gen1, gen2, rulesC, litR, bolR, Nat.reduceAdd, Nat.reduceLeDiff, numR, memR, valR, heapR, updR, intR, decR, extR, slR, segR, thenR, pnR, Int.reduceToNat, Int.reduceAdd, Int.reduceSub, Int.reduceLT, Int.reduceLE, Nat.reduceSub, Nat.reduceMul, Nat.reduceEqDiff]
    apply hJ4
    intro _
    exact hK _ hx
end Go.Proofs.Ytgnibcaflidjmaa
