/- A memory with some entries, and the document's; conditions: those of each theorem. -/
import Derived.Test.YtbigiabcgplkgaaRefWalk
namespace Go.Proofs.Ytbigiabcgplkgaa
open Go.Fx
set_option maxRecDepth 100000
set_option linter.unusedSimpArgs false
set_option linter.unusedVariables false
/-- an entry that is laid. -/
structure LayE where
  fr : Int
  ix : Int
  f : Nat → Bool
  n : Nat
def layC (p : LayE) : List Value := .int .i64 p.fr :: .int .i64 p.ix :: entC p.f p.n
theorem layC_len (p : LayE) : (layC p).length = 15 := by simp [layC, entC]
def atOf (p : LayE) : Nat := (p.fr % 8).toNat * 4096 + (p.ix % 512).toNat * 8
theorem atOf_lt (p : LayE) : atOf p < 8 * 4096 := by unfold atOf; omega
theorem atOf_mod (p : LayE) : atOf p % 8 = 0 := by unfold atOf; omega
def laidM (R : List LayE) : Nat → Int := R.foldl (fun m p => stored m (atOf p) 8 (wd p.f p.n : Nat)) (fun _ => 0)
theorem laidM_take {R : List LayE} {k : Nat} (h : k < R.length) : laidM (R.take (k + 1)) = stored (laidM (R.take k)) (atOf R[k]) 8 (wd R[k].f R[k].n : Nat) := by
  unfold laidM
  rw [List.take_succ_eq_append_getElem h, List.foldl_append]
  rfl
theorem sub_drop2 (l : List Value) (o n : Nat) : sub l (o + 2) n = (sub l o (n + 2)).drop 2 := by
  unfold sub
  rw [List.drop_take, List.drop_drop]
  rfl
set_option maxHeartbeats 4000000 in
theorem laid_spec {w : World} {v : Value} {R : List LayE} (hv : RowsAt w v 15 (R.map layC)) (hR : ∀ p ∈ R, p.n < 18446744073709551616) {K : Value → World → Prop}
    (hK : ∀ (w' : World) (r q base c : Nat) (g : Nat → Int) (L : List Value) (P : List (Nat × Int)) (va vb : Value), Mem w' r q 8 (laidM (R.take 60)) g → RMem w' base L 8 (laidM (R.take 60)) c P va vb → c ≤ 480 → r < base → q < base → w.heap.size ≤ r → w.heap.size ≤ q → base ≤ w'.heap.size → Ext [] w w' →
      K (.tuple #[.pointer (some ⟨r, 0, none⟩), .agg L.toArray]) w') : callsK Try.prog 11 #[v] w K := by
  apply F11_ok
  unfold F11
  simp (disch := first | assumption | omega | (simp only [szR, entC_len, entC_all, fdC_len, fdC_all] <;> omega) | rfl | decide) only [gen0, gen1, gen2, rulesM, litR, bolR, Nat.reduceAdd, Nat.reduceLeDiff, numR, memR, valR, heapR, updR, intR, decR, extR, slR, segR, thenR, pnR, Int.reduceToNat, Int.reduceAdd, Int.reduceSub, Int.reduceLT, Int.reduceLE, Nat.reduceSub, Nat.reduceMul, Nat.reduceEqDiff]
  refine New_spec (n := 8) (by omega) fun w1 hm1 hx1 => ?_
  have hs1 := hx1.size
  have hk1 := kept0 hx1
  simp only [szR] at hs1 hm1
  have hl1 := hm1.lt
  simp (disch := first | assumption | omega | (simp only [szR, entC_len, entC_all, fdC_len, fdC_all] <;> omega) | rfl | decide) only [gen0, gen1, gen2, rulesM, litR, bolR, Nat.reduceAdd, Nat.reduceLeDiff, numR, memR, valR, heapR, updR, intR, decR, extR, slR, segR, thenR, pnR, Int.reduceToNat, Int.reduceAdd, Int.reduceSub, Int.reduceLT, Int.reduceLE, Nat.reduceSub, Nat.reduceMul, Nat.reduceEqDiff]
  refine rNew_spec (n := 8) (by omega) fun w2 hr2 hx2 => ?_
  have hs2 := hx2.size
  have hk2 := kept0 hx2
  have hzl : splice [Value.int .i64 0, .slice none 0 0, .slice none 0 0, .slice none 0 0] 0 (rmC 8 (.slice none 0 0) (.slice none 0 0)) = rmC 8 (.slice none 0 0) (.slice none 0 0) := by simp [splice, rmC]
  have hrl : (rmC 8 (.slice none 0 0) (.slice none 0 0)).length = 4 := rfl
  have hra : (rmC 8 (.slice none 0 0) (.slice none 0 0)).all (fun v => v.oneCell') = true := rfl
  have hdz : ∀ l : List Value, l.length = 4 → ∀ vs : List Value, vs.length = 4 → vs ++ List.drop vs.length l = vs := fun l h vs h2 => by simp [h, h2]
  simp (disch := first | assumption | omega | (simp only [szR, entC_len, entC_all, fdC_len, fdC_all] <;> omega) | rfl | decide) only [gen0, gen1, gen2, rulesM, litR, bolR, Nat.reduceAdd, Nat.reduceLeDiff, numR, memR, valR, heapR, updR, intR, decR, extR, slR, segR, thenR, pnR, Int.reduceToNat, Int.reduceAdd, Int.reduceSub, Int.reduceLT, Int.reduceLE, Nat.reduceSub, Nat.reduceMul, Nat.reduceEqDiff, hzl, hrl, hra]
  have hx02 : Ext [] w w2 := Ext.trans (S := []) (Ext.trans (S := []) (by (repeat first | assumption | exact Ext.refl | apply Ext.alloc | apply Ext.drew | (refine Ext.updN ?_ ?_; (focus first | omega | (simp only [szR] <;> omega))) | (refine Ext.updI ?_ ?_; (focus (simp; done))))) hx1 (by simp)) hx2 (by simp)
  refine loopT.intro (fun st w' => ∃ (k c : Nat) (g : Nat → Int) (L : List Value) (P : List (Nat × Int)) (va vb : Value), k ≤ R.length ∧ k ≤ 60 ∧ c = 8 * k ∧ st = [.int .i64 k] ∧ Mem w' (w.heap.size + 1 + 1) (w.heap.size + 1) 8 (laidM (R.take k)) g ∧ RMem w' (w2.heap.size + 1) L 8 (laidM (R.take k)) c P va vb ∧
      w'.heap[w2.heap.size]? = some (.cells L.toArray 28 (0, 0)) ∧ w'.heap[w.heap.size]? = some (.cells [.int .i64 0, .slice none 0 0, .slice none 0 0, .slice none 0 0].toArray 28 (0, 0)) ∧ Ext [] w w')
    (fun st _ => match st with
      | [.int _ z] => 60 - z.toNat
      | _ => 0) ⟨0, 0, fun _ => 0, rmC 8 (.slice none 0 0) (.slice none 0 0), [], .slice none 0 0, .slice none 0 0, by omega, by omega, rfl, rfl, ?_, (hr2 _).ext (S := []) ?_ (by simp), ?_, ?_, ?_⟩ ?_
  · refine (hm1.ext hx2 (by simp) (by simp)).ext (S := []) ?_ (by simp) (by simp)
    (repeat first | assumption | exact Ext.refl | apply Ext.alloc | apply Ext.drew | (refine Ext.updN ?_ ?_; (focus first | omega | (simp only [szR] <;> omega))) | (refine Ext.updI ?_ ?_; (focus (simp; done))))
  · (repeat first | assumption | exact Ext.refl | apply Ext.alloc | apply Ext.drew | (refine Ext.updN ?_ ?_; (focus first | omega | (simp only [szR] <;> omega))) | (refine Ext.updI ?_ ?_; (focus (simp; done))))
  · (first | with_reducible rfl | assumption | (simp (disch := first | assumption | omega | (simp only [szR, entC_len, entC_all, fdC_len, fdC_all] <;> omega) | rfl | decide) only [gen0, gen1, gen2, rulesM, litR, bolR, Nat.reduceAdd, Nat.reduceLeDiff, numR, memR, valR, heapR, updR, intR, decR, extR, slR, segR, thenR, pnR, Int.reduceToNat, Int.reduceAdd, Int.reduceSub, Int.reduceLT, Int.reduceLE, Nat.reduceSub, Nat.reduceMul, Nat.reduceEqDiff, hdz] <;> rfl) | simp (disch := first | assumption | omega | (simp only [szR, entC_len, entC_all, fdC_len, fdC_all] <;> omega) | rfl | decide) only [gen0, gen1, gen2, rulesM, litR, bolR, Nat.reduceAdd, Nat.reduceLeDiff, numR, memR, valR, heapR, updR, intR, decR, extR, slR, segR, thenR, pnR, Int.reduceToNat, Int.reduceAdd, Int.reduceSub, Int.reduceLT, Int.reduceLE, Nat.reduceSub, Nat.reduceMul, Nat.reduceEqDiff, hdz])
  · (first | with_reducible rfl | assumption | (simp (disch := first | assumption | omega | (simp only [szR, entC_len, entC_all, fdC_len, fdC_all] <;> omega) | rfl | decide) only [gen0, gen1, gen2, rulesM, litR, bolR, Nat.reduceAdd, Nat.reduceLeDiff, numR, memR, valR, heapR, updR, intR, decR, extR, slR, segR, thenR, pnR, Int.reduceToNat, Int.reduceAdd, Int.reduceSub, Int.reduceLT, Int.reduceLE, Nat.reduceSub, Nat.reduceMul, Nat.reduceEqDiff, hk2, hk1] <;> rfl) | simp (disch := first | assumption | omega | (simp only [szR, entC_len, entC_all, fdC_len, fdC_all] <;> omega) | rfl | decide) only [gen0, gen1, gen2, rulesM, litR, bolR, Nat.reduceAdd, Nat.reduceLeDiff, numR, memR, valR, heapR, updR, intR, decR, extR, slR, segR, thenR, pnR, Int.reduceToNat, Int.reduceAdd, Int.reduceSub, Int.reduceLT, Int.reduceLE, Nat.reduceSub, Nat.reduceMul, Nat.reduceEqDiff, hk2, hk1])
  · (repeat first | assumption | exact Ext.refl | apply Ext.alloc | apply Ext.drew | (refine Ext.updN ?_ ?_; (focus first | omega | (simp only [szR] <;> omega))) | (refine Ext.updI ?_ ?_; (focus (simp; done))))
  rintro st w' ⟨k, c, g, L, P, va, vb, hk, hk60, rfl, rfl, hmem, hrm, hc6, hc3, hx⟩ _
  have hsw := hx.size
  have l6 := lt_of_at hc6
  have hml := hmem.lt
  obtain ⟨hlenL, hallL, hsubL⟩ := hrm.cells
  have hlen : ∀ w, (Builtin.len_ #[22] 3 #[v]).run Try.prog w = .ok (.int .i64 R.length) w := fun w => by
    have := RowsAt.lenR (P := Try.prog) (ty := 3) Try.underlying22 hv w
    rw [List.length_map] at this
    exact this
  have e60 : (60 : Int) = ((60 : Nat) : Int) := rfl
  by_cases hkl : k < R.length ∧ k < 60
  · obtain ⟨hkR, hk6⟩ := hkl
    obtain ⟨b, o, l, E, ff, hix, hb, hfit, hblt, hblk, hsub, hget⟩ := RowsAt.ixR Try.underlying22 Try.sizeOf44 hv (k := k) (r := layC R[k]) (by simp [hkR])
    have hn := hR R[k] (List.getElem_mem hkR)
    have htk := laidM_take hkR
    obtain ⟨p, hp⟩ : ∃ p, p = R[k] := ⟨_, rfl⟩
    rw [← hp] at hsub hget hn htk
    have g0 : l[o]? = some (.int .i64 p.fr) := hget o 0 rfl (by omega)
    have g1 : l[o + 1]? = some (.int .i64 p.ix) := hget (o + 1) 1 rfl (by omega)
    have g13 : sub l (o + 2) 13 = entC p.f p.n := by
      rw [sub_drop2, hsub o rfl]
      rfl
    have hb1 := hx.at hb (by simp)
    have hmask : bitI .and .i64 p.fr 7 = p.fr % 8 := and_mask (k := .i64) (n := 3) (by decide)
    have hmask2 : bitI .and .i64 p.ix 511 = p.ix % 512 := and_mask (k := .i64) (n := 9) (by decide)
    have e2 : p.fr % 8 * 4096 + p.ix % 512 * 8 = ((atOf p : Nat) : Int) := by unfold atOf; omega
    have hwl := wd_lt p.f p.n
    have hal := atOf_lt p
    have ham := atOf_mod p
    simp (disch := first | assumption | omega | (simp only [szR, entC_len, entC_all, fdC_len, fdC_all] <;> omega) | rfl | decide) only [gen0, gen1, gen2, rulesM, litR, bolR, Nat.reduceAdd, Nat.reduceLeDiff, numR, memR, valR, heapR, updR, intR, decR, extR, slR, segR, thenR, pnR, Int.reduceToNat, Int.reduceAdd, Int.reduceSub, Int.reduceLT, Int.reduceLE, Nat.reduceSub, Nat.reduceMul, Nat.reduceEqDiff, joinBR, hlen]
    refine joinL.intro fun J3 hJ3 => ?_
    have hrest : ∀ w5 g' L' P' va' vb', Mem w5 (w.heap.size + 1 + 1) (w.heap.size + 1) 8 (stored (laidM (R.take k)) (atOf p) 8 (wd p.f p.n : Nat)) g' → RMem w5 (w2.heap.size + 1) L' 8 (stored (laidM (R.take k)) (atOf p) 8 (wd p.f p.n : Nat)) (8 * k + 8) P' va' vb' →
        w5.heap[w2.heap.size]? = some (.cells L'.toArray 28 (0, 0)) → w5.heap[w.heap.size]? = some (.cells [.int .i64 0, .slice none 0 0, .slice none 0 0, .slice none 0 0].toArray 28 (0, 0)) → Ext [] w w5 → J3 [] w5 := by
      intro w5 g' L' P' va' vb' h1 h2 h3 h4 h5
      rw [← htk] at h1 h2
      apply hJ3
      intro _
      simp (disch := first | assumption | omega | (simp only [szR, entC_len, entC_all, fdC_len, fdC_all] <;> omega) | rfl | decide) only [gen0, gen1, gen2, rulesM, litR, bolR, Nat.reduceAdd, Nat.reduceLeDiff, numR, memR, valR, heapR, updR, intR, decR, extR, slR, segR, thenR, pnR, Int.reduceToNat, Int.reduceAdd, Int.reduceSub, Int.reduceLT, Int.reduceLE, Nat.reduceSub, Nat.reduceMul, Nat.reduceEqDiff]
      exact ⟨⟨k + 1, 8 * k + 8, g', L', P', va', vb', by omega, by omega, by omega, by first | rfl | simp, h1, h2, h3, h4, h5⟩, by first | omega | (simp <;> omega)⟩
    clear hJ3
    simp (disch := first | assumption | omega | (simp only [szR, entC_len, entC_all, fdC_len, fdC_all] <;> omega) | rfl | decide) only [gen0, gen1, gen2, rulesM, litR, bolR, Nat.reduceAdd, Nat.reduceLeDiff, numR, memR, valR, heapR, updR, intR, decR, extR, slR, segR, thenR, pnR, Int.reduceToNat, Int.reduceAdd, Int.reduceSub, Int.reduceLT, Int.reduceLE, Nat.reduceSub, Nat.reduceMul, Nat.reduceEqDiff, hix, hb1, g0, g1, g13, hmask, hmask2, e2]
    refine Word_spec hn fun w3 hx3 => ?_
    have hx3w : Ext [] w' w3 := Ext.trans (S := []) (by (repeat first | assumption | exact Ext.refl | apply Ext.alloc | apply Ext.drew | (refine Ext.updN ?_ ?_; (focus first | omega | (simp only [szR] <;> omega))) | (refine Ext.updI ?_ ?_; (focus (simp; done))))) hx3 (by simp)
    have hs3 := hx3w.size
    simp (disch := first | assumption | omega | (simp only [szR, entC_len, entC_all, fdC_len, fdC_all] <;> omega) | rfl | decide) only [gen0, gen1, gen2, rulesM, litR, bolR, Nat.reduceAdd, Nat.reduceLeDiff, numR, memR, valR, heapR, updR, intR, decR, extR, slR, segR, thenR, pnR, Int.reduceToNat, Int.reduceAdd, Int.reduceSub, Int.reduceLT, Int.reduceLE, Nat.reduceSub, Nat.reduceMul, Nat.reduceEqDiff]
    refine Store_spec (v := (wd p.f p.n : Nat)) (hmem.ext hx3w (by simp) (by simp)) (by omega) hal (.inr (.inr (.inr rfl))) ham ⟨by omega, by omega⟩ fun g4 w4 hm4 _ hx4 => ?_
    have hs4 := hx4.size
    have hx34 : Ext [w.heap.size + 1] w' w4 := Ext.trans (hx3w.mono (by simp)) hx4 (by simp)
    have hxw4 : Ext [] w w4 := hx.trans hx34 (by simp <;> omega)
    have hc64 := hx34.at hc6 (by simp <;> omega)
    have hc34 := hx34.at hc3 (by simp)
    have hb4 := hxw4.at hb (by simp)
    have hr4 := hrm.ext hx34 (by simp <;> omega)
    clear hb1 hmem hrm hc6 hc3
    simp (disch := first | assumption | omega | (simp only [szR, entC_len, entC_all, fdC_len, fdC_all] <;> omega) | rfl | decide) only [gen0, gen1, gen2, rulesM, litR, bolR, Nat.reduceAdd, Nat.reduceLeDiff, numR, memR, valR, heapR, updR, intR, decR, extR, slR, segR, thenR, pnR, Int.reduceToNat, Int.reduceAdd, Int.reduceSub, Int.reduceLT, Int.reduceLE, Nat.reduceSub, Nat.reduceMul, Nat.reduceEqDiff, hix, hb4, g13, hc64, hsubL, hlenL]
    repeat' (with_reducible apply And.intro)
    all_goals
      refine RWord_spec hn fun w5 hx5 => ?_
      have hk5 := kept0 hx5
      have hs5 := hx5.size
      simp only [szR] at hs5
      have hx45 : Ext [] w4 w5 := Ext.trans (S := []) (by (repeat first | assumption | exact Ext.refl | apply Ext.alloc | apply Ext.drew | (refine Ext.updN ?_ ?_; (focus first | omega | (simp only [szR] <;> omega))) | (refine Ext.updI ?_ ?_; (focus (simp; done))))) hx5 (by simp)
      simp (disch := first | assumption | omega | (simp only [szR, entC_len, entC_all, fdC_len, fdC_all] <;> omega) | rfl | decide) only [gen0, gen1, gen2, rulesM, litR, bolR, Nat.reduceAdd, Nat.reduceLeDiff, numR, memR, valR, heapR, updR, intR, decR, extR, slR, segR, thenR, pnR, Int.reduceToNat, Int.reduceAdd, Int.reduceSub, Int.reduceLT, Int.reduceLE, Nat.reduceSub, Nat.reduceMul, Nat.reduceEqDiff, hk5, hc64, hsubL, hlenL]
      refine rStore_spec (hr4.ext hx45 (by simp)) (by omega) (by omega) (by omega) ham hal (by omega) fun L' P' va' vb' w6 h6 hx6 => ?_
      have hk6 := kept0 hx6
      have hs6 := hx6.size
      have hx46 := hx45.trans hx6 (by simp)
      obtain ⟨hlen6, hall6, hsub6⟩ := h6.cells
      have hc66 := hx46.at hc64 (by simp)
      have hc36 := hx46.at hc34 (by simp)
      have hsp := splice_all (l := L) (vs := L') (by omega)
      have hdr := drop_all (l := L) (vs := L') (by omega)
      simp (disch := first | assumption | omega | (simp only [szR, entC_len, entC_all, fdC_len, fdC_all] <;> omega) | rfl | decide) only [gen0, gen1, gen2, rulesM, litR, bolR, Nat.reduceAdd, Nat.reduceLeDiff, numR, memR, valR, heapR, updR, intR, decR, extR, slR, segR, thenR, pnR, Int.reduceToNat, Int.reduceAdd, Int.reduceSub, Int.reduceLT, Int.reduceLE, Nat.reduceSub, Nat.reduceMul, Nat.reduceEqDiff, hc66, hlen6, hall6, hsp, hdr]
      have hxw6 := hxw4.trans hx46 (by simp)
      refine hrest _ g4 L' P' va' vb' ((hm4.ext hx46 (by simp) (by simp)).ext (S := [w2.heap.size]) (by (repeat first | assumption | exact Ext.refl | apply Ext.alloc | apply Ext.drew | (refine Ext.updN ?_ ?_; (focus first | omega | (simp only [szR] <;> omega))) | (refine Ext.updI ?_ ?_; (focus (simp; done))))) (by simp <;> omega) (by simp <;> omega)) (h6.ext (S := [w2.heap.size]) (by (repeat first | assumption | exact Ext.refl | apply Ext.alloc | apply Ext.drew | (refine Ext.updN ?_ ?_; (focus first | omega | (simp only [szR] <;> omega))) | (refine Ext.updI ?_ ?_; (focus (simp; done))))) (by simp)) (by first | with_reducible rfl | assumption | (simp (disch := first | assumption | omega | (simp only [szR, entC_len, entC_all, fdC_len, fdC_all] <;> omega) | rfl | decide) only [gen0, gen1, gen2, rulesM, litR, bolR, Nat.reduceAdd, Nat.reduceLeDiff, numR, memR, valR, heapR, updR, intR, decR, extR, slR, segR, thenR, pnR, Int.reduceToNat, Int.reduceAdd, Int.reduceSub, Int.reduceLT, Int.reduceLE, Nat.reduceSub, Nat.reduceMul, Nat.reduceEqDiff, hc66, hdr, hsp] <;> rfl) | simp (disch := first | assumption | omega | (simp only [szR, entC_len, entC_all, fdC_len, fdC_all] <;> omega) | rfl | decide) only [gen0, gen1, gen2, rulesM, litR, bolR, Nat.reduceAdd, Nat.reduceLeDiff, numR, memR, valR, heapR, updR, intR, decR, extR, slR, segR, thenR, pnR, Int.reduceToNat, Int.reduceAdd, Int.reduceSub, Int.reduceLT, Int.reduceLE, Nat.reduceSub, Nat.reduceMul, Nat.reduceEqDiff, hc66, hdr, hsp]) (by first | with_reducible rfl | assumption | (simp (disch := first | assumption | omega | (simp only [szR, entC_len, entC_all, fdC_len, fdC_all] <;> omega) | rfl | decide) only [gen0, gen1, gen2, rulesM, litR, bolR, Nat.reduceAdd, Nat.reduceLeDiff, numR, memR, valR, heapR, updR, intR, decR, extR, slR, segR, thenR, pnR, Int.reduceToNat, Int.reduceAdd, Int.reduceSub, Int.reduceLT, Int.reduceLE, Nat.reduceSub, Nat.reduceMul, Nat.reduceEqDiff, hc36] <;> rfl) | simp (disch := first | assumption | omega | (simp only [szR, entC_len, entC_all, fdC_len, fdC_all] <;> omega) | rfl | decide) only [gen0, gen1, gen2, rulesM, litR, bolR, Nat.reduceAdd, Nat.reduceLeDiff, numR, memR, valR, heapR, updR, intR, decR, extR, slR, segR, thenR, pnR, Int.reduceToNat, Int.reduceAdd, Int.reduceSub, Int.reduceLT, Int.reduceLE, Nat.reduceSub, Nat.reduceMul, Nat.reduceEqDiff, hc36]) (by (repeat first | assumption | exact Ext.refl | apply Ext.alloc | apply Ext.drew | (refine Ext.updN ?_ ?_; (focus first | omega | (simp only [szR] <;> omega))) | (refine Ext.updI ?_ ?_; (focus (simp; done)))))
  · have ht : R.take 60 = R.take k := by
      by_cases h60 : k = 60
      · rw [h60]
      · rw [List.take_of_length_le (by omega), List.take_of_length_le (by omega)]
    rw [ht] at hK
    have hsp := splice_all (l := [.int .i64 0, .slice none 0 0, .slice none 0 0, .slice none 0 0]) (vs := L) (by rw [hlenL]; rfl)
    have l3 := lt_of_at hc3
    have hfin : ∀ w5, w5 = World.upd w'.drew w.heap.size L → K (.tuple #[.pointer (some ⟨w.heap.size + 1 + 1, 0, none⟩), .agg L.toArray]) w5 := by
      rintro w5 rfl
      refine hK _ _ _ (w2.heap.size + 1) (8 * k) g L P va vb (hmem.ext (S := [w.heap.size]) (by (repeat first | assumption | exact Ext.refl | apply Ext.alloc | apply Ext.drew | (refine Ext.updN ?_ ?_; (focus first | omega | (simp only [szR] <;> omega))) | (refine Ext.updI ?_ ?_; (focus (simp; done))))) (by simp <;> omega) (by simp <;> omega)) (hrm.ext (S := [w.heap.size]) (by (repeat first | assumption | exact Ext.refl | apply Ext.alloc | apply Ext.drew | (refine Ext.updN ?_ ?_; (focus first | omega | (simp only [szR] <;> omega))) | (refine Ext.updI ?_ ?_; (focus (simp; done))))) (by simp <;> omega)) (by omega) (by omega) (by omega) (by omega) (by omega) (by simp only [szR]; omega) (by (repeat first | assumption | exact Ext.refl | apply Ext.alloc | apply Ext.drew | (refine Ext.updN ?_ ?_; (focus first | omega | (simp only [szR] <;> omega))) | (refine Ext.updI ?_ ?_; (focus (simp; done)))))
    by_cases hkR : k < R.length
    · have hk6 : ¬ k < 60 := fun h => hkl ⟨hkR, h⟩
      simp (disch := first | assumption | omega | (simp only [szR, entC_len, entC_all, fdC_len, fdC_all] <;> omega) | rfl | decide) only [gen0, gen1, gen2, rulesM, litR, bolR, Nat.reduceAdd, Nat.reduceLeDiff, numR, memR, valR, heapR, updR, intR, decR, extR, slR, segR, thenR, pnR, Int.reduceToNat, Int.reduceAdd, Int.reduceSub, Int.reduceLT, Int.reduceLE, Nat.reduceSub, Nat.reduceMul, Nat.reduceEqDiff, joinBR, hlen, hc6, hc3, hsubL, hlenL, hallL, hsp]
      exact hfin _ rfl
    · simp (disch := first | assumption | omega | (simp only [szR, entC_len, entC_all, fdC_len, fdC_all] <;> omega) | rfl | decide) only [gen0, gen1, gen2, rulesM, litR, bolR, Nat.reduceAdd, Nat.reduceLeDiff, numR, memR, valR, heapR, updR, intR, decR, extR, slR, segR, thenR, pnR, Int.reduceToNat, Int.reduceAdd, Int.reduceSub, Int.reduceLT, Int.reduceLE, Nat.reduceSub, Nat.reduceMul, Nat.reduceEqDiff, joinBR, hlen, hc6, hc3, hsubL, hlenL, hallL, hsp]
      exact hfin _ rfl
end Go.Proofs.Ytbigiabcgplkgaa
