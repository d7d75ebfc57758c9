/- Tables' frames told; conditions: those of each theorem. -/
import Derived.Test.YtfpcflmgipklcaaTab7
namespace Go.Proofs.Ytfpcflmgipklcaa
open Go.Fx
set_option maxRecDepth 100000
set_option linter.unusedSimpArgs false
set_option linter.unusedVariables false
theorem flat_kC : ∀ fs : List Nat, (fs.map kC).flatten = fs.map fun k => Value.int .i64 (k : Nat)
  | [] => rfl
  | a :: l => by
    rw [List.map_cons, List.flatten_cons, flat_kC l]
    rfl
theorem frames_tab {w0 w : World} {tb r q p n : Nat} {m g : Nat → Int} {t : Nat} {fs : List Nat} (h : Tab w0 w tb r q p n m g t fs) (hfs : 0 < fs.length ∧ fs.length ≤ 64) {K : Value → World → Prop} (hK : ∀ a c w', Ext [] w w' → K (.slice a fs.length c) w') : callsK Try.prog 18 #[.pointer (some ⟨tb, 0, none⟩)] w K := by
  obtain ⟨a, c, h1, h2⟩ := h.box
  apply F18_ok
  unfold F18
  simp (disch := first | assumption | omega | (simp only [szR, tgC_len, tgC_all, entC_len, entC_all, plC_len, plC_all, tbC_len, tbC_all] <;> omega) | rfl | decide) only [gen0, gen1, gen2, rulesM, rulesT, litR, bolR, Nat.reduceAdd, Nat.reduceLeDiff, numR, memR, valR, heapR, updR, intR, decR, extR, slR, segR, thenR, pnR, Int.reduceToNat, Int.reduceAdd, Int.reduceSub, Int.reduceLT, Int.reduceLE, Nat.reduceSub, Nat.reduceMul, Nat.reduceEqDiff]
  refine tnone_spec h hfs ?_
  simp (disch := first | assumption | omega | (simp only [szR, tgC_len, tgC_all, entC_len, entC_all, plC_len, plC_all, tbC_len, tbC_all] <;> omega) | rfl | decide) only [gen0, gen1, gen2, rulesM, rulesT, litR, bolR, Nat.reduceAdd, Nat.reduceLeDiff, numR, memR, valR, heapR, updR, intR, decR, extR, slR, segR, thenR, pnR, Int.reduceToNat, Int.reduceAdd, Int.reduceSub, Int.reduceLT, Int.reduceLE, Nat.reduceSub, Nat.reduceMul, Nat.reduceEqDiff, h1, tbC_2]
  refine values_spec ?_
  have hx1 : Ext [] w (w.alloc (.cells [Value.slice a fs.length c].toArray 38)) := Ext.alloc Ext.refl _ _
  have hB : Boxed (w.alloc (.cells [Value.slice a fs.length c].toArray 38)) w.heap.size 38 (.slice a fs.length c) := alloc_at rfl
  have ho := h2.ext hx1 (by simp)
  have hI : IntsAt (w.alloc (.cells [Value.slice a fs.length c].toArray 38)).heap.size (w.alloc (.cells [Value.slice a fs.length c].toArray 38)) (.slice a fs.length c) (fs.map Int.ofNat) := by
    obtain ⟨hl, ⟨h3, -⟩ | ⟨gb, cap, cur, h3, hb, hg, hcap, hm, h5, h6⟩⟩ := ho.own
    · simp only [Value.slice.injEq] at h3
      omega
    · simp only [Value.slice.injEq, List.length_map] at h3
      obtain ⟨rfl, -, rfl⟩ := h3
      refine .inr ⟨gb, 0, c, by rw [List.length_map], lt_of_at hg, fun j hj => ?_⟩
      rw [List.length_map] at hj
      have h7 : cur[j]? = some (Value.int .i64 ((fs[j] : Nat) : Int)) := by
        have h8 := congrArg (fun l => l[j]?) h6
        simp only [List.length_map, Nat.mul_one, flat_kC, List.getElem?_map] at h8
        rw [List.getElem?_take_of_lt hj, List.getElem?_eq_getElem hj] at h8
        exact h8
      rw [Nat.zero_add]
      simp [World.cell?, hg, h7, List.getElem?_map, List.getElem?_eq_getElem hj]
  refine sorted_spec hB hI (by simp; omega) fun a2 c2 w2 hx2 => ?_
  rw [List.length_map]
  exact hK _ _ _ (hx1.trans hx2 (by simp))
end Go.Proofs.Ytfpcflmgipklcaa
