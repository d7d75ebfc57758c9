/- Tables made, their frames told; conditions: those of each theorem. -/
import Derived.Test.YtfpcflmgipklcaaTab6
namespace Go.Proofs.Ytfpcflmgipklcaa
open Go.Fx
set_option maxRecDepth 100000
set_option linter.unusedSimpArgs false
set_option linter.unusedVariables false
theorem pnew_spec {w : World} {n : Nat} (hn : 1 ≤ n ∧ n ≤ 62) {K : Value → World → Prop} (hK : ∀ w', w'.heap[w.heap.size]? = some (.cells (plC n 0).toArray 82 (0, 0)) → Ext [] w w' → K (.tuple #[.pointer (some ⟨w.heap.size, 0, none⟩), .int .i64 0]) w') : callsK Try.prog 7 #[.int .i64 (n : Nat)] w K := by
  apply F7_ok
  unfold F7
  simp (disch := first | assumption | omega | (simp only [szR, tgC_len, tgC_all, entC_len, entC_all, plC_len, plC_all, tbC_len, tbC_all] <;> omega) | rfl | decide) only [gen0, gen1, gen2, rulesM, rulesT, litR, bolR, Nat.reduceAdd, Nat.reduceLeDiff, numR, memR, valR, heapR, updR, intR, decR, extR, slR, segR, thenR, pnR, Int.reduceToNat, Int.reduceAdd, Int.reduceSub, Int.reduceLT, Int.reduceLE, Nat.reduceSub, Nat.reduceMul, Nat.reduceEqDiff, joinBR]
  exact hK _ (alloc_at rfl) (by (repeat first | assumption | exact Ext.refl | apply Ext.alloc | apply Ext.drew | (refine Ext.updN ?_ ?_; (focus first | omega | (simp only [szR] <;> omega))) | (refine Ext.updI ?_ ?_; (focus (simp; done)))))
theorem tnew_spec {w0 w : World} {r q p n : Nat} {m g : Nat → Int} (hM : Mem w r q n m g) (hp : w.heap[p]? = some (.cells (plC n 0).toArray 82 (0, 0))) (hn : 1 ≤ n ∧ n ≤ 62) (hlo : w0.heap.size ≤ r ∧ w0.heap.size ≤ q ∧ w0.heap.size ≤ p) (hx : Ext [] w0 w) {K : Value → World → Prop}
    (hK : ∀ tb g' t w', Tab w0 w' tb r q p n (wipeM m 0) g' t [0] → Tree (wipeM m 0) n [0] (fun _ => 2) (fun _ => (0, 0)) → OwnT t [0] → (∀ va, lookW (wipeM m 0) 0 va = 0) → (∀ va, lev (wipeM m 0) 0 va = 2) → KeptO w w' → K (.tuple #[.pointer (some ⟨tb, 0, none⟩), .int .i64 0]) w') :
    callsK Try.prog 8 #[.pointer (some ⟨r, 0, none⟩), .pointer (some ⟨p, 0, none⟩)] w K := by
  have hz : ∀ k i, i < 512 → k = 0 → ew (wipeM m 0) k i = 0 := fun k i hi hk => by rw [ew_wipe hi, if_pos hk]
  have hlw : ∀ va l, low (wipeM m 0) va l 0 = (0, l, decide (l = 0)) := fun va l => low_new (fun i hi => hz 0 i hi rfl) l
  have hT : Tree (wipeM m 0) n [0] (fun _ => 2) (fun _ => (0, 0)) := ⟨⟨0, [], rfl, rfl⟩, fun f hf => by rw [List.mem_singleton.1 hf]; omega, by simp, fun f hf i hi l _ hv => by
    rw [hz f i hi (List.mem_singleton.1 hf), fl_zero] at hv
    cases hv⟩
  apply F8_ok
  unfold F8
  simp (disch := first | assumption | omega | (simp only [szR, tgC_len, tgC_all, entC_len, entC_all, plC_len, plC_all, tbC_len, tbC_all] <;> omega) | rfl | decide) only [gen0, gen1, gen2, rulesM, rulesT, litR, bolR, Nat.reduceAdd, Nat.reduceLeDiff, numR, memR, valR, heapR, updR, intR, decR, extR, slR, segR, thenR, pnR, Int.reduceToNat, Int.reduceAdd, Int.reduceSub, Int.reduceLT, Int.reduceLE, Nat.reduceSub, Nat.reduceMul, Nat.reduceEqDiff]
  refine Frames_spec hM (by omega) ?_
  simp (disch := first | assumption | omega | (simp only [szR, tgC_len, tgC_all, entC_len, entC_all, plC_len, plC_all, tbC_len, tbC_all] <;> omega) | rfl | decide) only [gen0, gen1, gen2, rulesM, rulesT, litR, bolR, Nat.reduceAdd, Nat.reduceLeDiff, numR, memR, valR, heapR, updR, intR, decR, extR, slR, segR, thenR, pnR, Int.reduceToNat, Int.reduceAdd, Int.reduceSub, Int.reduceLT, Int.reduceLE, Nat.reduceSub, Nat.reduceMul, Nat.reduceEqDiff]
  refine taken_spec hM hp hn (by omega) (fun k w1 hk hb hj hM1 hp1 hx1 => ?_) fun w1 hj hx1 => absurd (hj 0 (by omega)) (by simp)
  have hk0 : k = 0 := by
    rcases Nat.eq_zero_or_pos k with h | h
    · exact h
    · have := hj 0 h
      simp at this
  subst hk0
  simp (disch := first | assumption | omega | (simp only [szR, tgC_len, tgC_all, entC_len, entC_all, plC_len, plC_all, tbC_len, tbC_all] <;> omega) | rfl | decide) only [gen0, gen1, gen2, rulesM, rulesT, litR, bolR, Nat.reduceAdd, Nat.reduceLeDiff, numR, memR, valR, heapR, updR, intR, decR, extR, slR, segR, thenR, pnR, Int.reduceToNat, Int.reduceAdd, Int.reduceSub, Int.reduceLT, Int.reduceLE, Nat.reduceSub, Nat.reduceMul, Nat.reduceEqDiff]
  obtain ⟨w2, hw2⟩ : ∃ w2, w2 = w1.alloc (.cells (kC 0).toArray 3) := ⟨_, rfl⟩
  obtain ⟨w3, hw3⟩ : ∃ w3, w3 = w2.alloc (.cells (tbC r p (.slice (some ⟨w1.heap.size, 0, none⟩) 1 1)).toArray 85) := ⟨_, rfl⟩
  have hx2 : Ext [] w1 w2 := by rw [hw2]; exact Ext.alloc Ext.refl _ _
  have hx3 : Ext [] w2 w3 := by rw [hw3]; exact Ext.alloc Ext.refl _ _
  have hx23 := hx2.trans hx3 (by simp)
  have hs2 : w2.heap.size = w1.heap.size + 1 := by rw [hw2]; simp only [szR]
  have hpq : ∀ b, b ∈ [p, q] → w0.heap.size ≤ b := fun b hb => by simp at hb; omega
  have hO : OwnT (0 ||| 2 ^ 0) [0] := OwnT.grow (t := 0) (fs := []) (k := 0) fun i _ => by simp
  obtain ⟨L, hL, -⟩ := hM.body
  suffices hfin : K (.tuple #[.pointer (some ⟨w1.heap.size + 1, 0, none⟩), .int .i64 0]) w3 by
    rw [hw3, hw2] at hfin
    exact hfin
  refine hK (w1.heap.size + 1) _ (0 ||| 2 ^ 0) w3 ⟨hM1.ext hx23 (by simp) (by simp), hn, by decide, hx23.at hp1 (by simp), ⟨some ⟨w1.heap.size, 0, none⟩, 1, by rw [hw3, ← hs2]; exact alloc_at rfl, ?_⟩, ⟨hlo.1, hlo.2.1, hlo.2.2, ?_⟩, ?_⟩ hT hO (fun va => ?_) (fun va => ?_) ?_
  · have h1 : OwnR w2 w0.heap.size 3 1 (.slice (some ⟨w1.heap.size, 0, none⟩) 1 1) [kC 0] := by
      rw [hw2]
      exact OwnR.fresh rfl rfl (Nat.le_trans hx.size hx1.size)
    exact h1.ext hx3 (by simp)
  · have := hx.size
    have := hx1.size
    omega
  · exact extUp (extUp hx hx1 hpq) hx23 (by simp)
  · unfold lookW
    rw [hlw]
    rfl
  · exact lev_of (hlw va 2)
  · exact (KeptO.of hx1 (fun b hb => by
      simp only [List.mem_cons, List.not_mem_nil, or_false] at hb
      rcases hb with e | e
      · exact ⟨_, _, e ▸ hp, .inr (.inr (.inl rfl))⟩
      · exact ⟨_, _, e ▸ hL, .inr (.inr (.inr rfl))⟩)).trans (KeptO.of hx23 (by simp))
theorem Root_tab {w0 w : World} {tb r q p n : Nat} {m g : Nat → Int} {t : Nat} {fs : List Nat} (h : Tab w0 w tb r q p n m g t fs) (hfs : 0 < fs.length ∧ fs.length ≤ 64) (hlt : fs.headD 0 < 64) {K : Value → World → Prop} (hK : K (.int .u64 (fs.headD 0 : Nat)) w) : callsK Try.prog 21 #[.pointer (some ⟨tb, 0, none⟩)] w K := by
  obtain ⟨a, c, h1, h2⟩ := h.box
  have hk : (fs.map kC)[0]? = some (kC (fs.headD 0)) := by
    cases fs with
    | nil => simp at hfs
    | cons f l => rfl
  obtain ⟨b, o, L, E, ff, hix, hb, hfit, hlt2, hblk, hsub, hget⟩ := RowsAt.ixR (P := Try.prog) (t := 38) Try.underlying38 Try.sizeOf3 h2.rows (k := 0) (r := kC (fs.headD 0)) hk
  have hg0 := hget o 0 (by omega) (by omega)
  simp only [kC, List.getElem?_cons_zero] at hg0
  have hix' : ∀ w, (Instr.indexAt 38 (.slice a fs.length c) (.int .i64 0)).run Try.prog w = .ok (.pointer (some ⟨b, o, none⟩)) w := fun w => hix w .i64 0 rfl
  apply F21_ok
  unfold F21
  simp (disch := first | assumption | omega | (simp only [szR, tgC_len, tgC_all, entC_len, entC_all, plC_len, plC_all, tbC_len, tbC_all] <;> omega) | rfl | decide) only [gen0, gen1, gen2, rulesM, rulesT, litR, bolR, Nat.reduceAdd, Nat.reduceLeDiff, numR, memR, valR, heapR, updR, intR, decR, extR, slR, segR, thenR, pnR, Int.reduceToNat, Int.reduceAdd, Int.reduceSub, Int.reduceLT, Int.reduceLE, Nat.reduceSub, Nat.reduceMul, Nat.reduceEqDiff]
  refine tnone_spec h hfs ?_
  simp (disch := first | assumption | omega | (simp only [szR, tgC_len, tgC_all, entC_len, entC_all, plC_len, plC_all, tbC_len, tbC_all] <;> omega) | rfl | decide) only [gen0, gen1, gen2, rulesM, rulesT, litR, bolR, Nat.reduceAdd, Nat.reduceLeDiff, numR, memR, valR, heapR, updR, intR, decR, extR, slR, segR, thenR, pnR, Int.reduceToNat, Int.reduceAdd, Int.reduceSub, Int.reduceLT, Int.reduceLE, Nat.reduceSub, Nat.reduceMul, Nat.reduceEqDiff, h1, tbC_2, hix', hb, hg0]
  exact hK
theorem pfree_tab {w0 w : World} {tb r q p n : Nat} {m g : Nat → Int} {t : Nat} {fs : List Nat} {lv : Nat → Nat} {par : Nat → Nat × Nat} (h : Tab w0 w tb r q p n m g t fs) (hT : Tree m n fs lv par) (hO : OwnT t fs) {K : Value → World → Prop} (hK : ∀ w', Ext [] w w' → K (.int .i64 ((n : Nat) - (fs.length : Nat) : Int)) w') : callsK Try.prog 19 #[.pointer (some ⟨p, 0, none⟩)] w K := by
  have hn := h.num
  refine Free_spec h.pool hn h.bits fun w' hx => ?_
  rw [cnt_fs hO hT.one (fun a ha => by have := hT.lt a ha; omega)]
  exact hK w' hx
end Go.Proofs.Ytfpcflmgipklcaa
