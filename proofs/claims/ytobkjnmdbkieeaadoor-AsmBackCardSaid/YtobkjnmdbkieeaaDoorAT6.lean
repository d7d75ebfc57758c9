/- What is told of instructions is assembled to their words: the walk; conditions: those of each theorem. -/
import Derived.Test.YtobkjnmdbkieeaaDoorAT5
namespace Go.Proofs.YtobkjnmdbkieeaaDoor
open Go.Fx
set_option maxRecDepth 100000
set_option linter.unusedSimpArgs false
set_option linter.unusedVariables false
theorem neqS (a b : List UInt8) (x y : Operand) (w : World) : (binV .neq 9 x y (.string ⟨a.toArray⟩) (.string ⟨b.toArray⟩)).run Tryd.prog w = .ok (.bool (decide (a ≠ b))) w := by
  rw [run_neqS]
  have : ((⟨a.toArray⟩ : ByteArray).toList == (⟨b.toArray⟩ : ByteArray).toList) = decide (a = b) := by
    by_cases h : a = b
    · subst h
      rw [beq_self_eq_true, decide_eq_true rfl]
    · rw [decide_eq_false h, beq_eq_false_iff_ne]
      simpa using h
  rw [this]
  simp
def backF (i : IZ) : List UInt8 := 32 :: 32 :: textF i
theorem izCs_all (l : List IZ) : ∀ r ∈ l.map izC, r.all (fun v => v.oneCell') = true := by
  intro r hr
  obtain ⟨x, -, rfl⟩ := List.mem_map.1 hr
  exact izC_all x
theorem back_len (l : List IZ) : (textL backF l).length ≤ l.length * 103 := by
  unfold textL
  induction l with
  | nil => simp
  | cons i l ih =>
    have := textF_len i
    rw [List.flatMap_cons, List.length_append, List.length_cons]
    have hb : (backF i ++ [10]).length = (textF i).length + 3 := by simp [backF]
    omega
theorem back_split {l : List IZ} (h : ∀ i ∈ l, encOk i = true) : Lib.split (textL backF l) [10] = l.map backF ++ [[]] := by
  refine split_lines backF l fun i hi h10 => ?_
  unfold backF at h10
  rw [List.mem_cons, List.mem_cons] at h10
  rcases h10 with h10 | h10 | h10
  · exact absurd h10 (by decide)
  · exact absurd h10 (by decide)
  · rcases text_sign h10 with h | h | h | h | h
    · exact absurd h (by decide)
    · exact absurd h (by decide)
    · exact absurd h (by decide)
    · exact absurd h (by decide)
    · exact absurd h (by decide)
/-- what instructions' texts are assembled to. -/
theorem back_asm {w : World} {l : List IZ} (hg : Gm w) (hl : l.length ≤ 100) (h : ∀ i ∈ l, encOk i = true) {K : Value → World → Prop} (hK : ∀ v w', RowsAt w' v 1 ((l.map encR).map wC) → Ext [] w w' → (∀ b, blockOf v = some b → w.heap.size ≤ b) → K (.tuple #[v, .int .i64 0, .int .i64 0]) w') : callsK Tryd.prog 8 #[.string ⟨(textL backF l).toArray⟩] w K := by
  have hlen := back_len l
  have hls : linesFrom 0 (Lib.split (textL backF l) [10]) = mkLines 0 l := by
    rw [back_split h]
    exact lines_of backF (fun i k hi => (text_line hi k).1) l 0 h
  have hcnt : countF selfL (mkLines 0 l) = ⟨fun _ => none, fun _ => none, 0 + (mkLines 0 l).length⟩ := count_plain (mkLines 0 l) Mk.zero fun x hx => (mkLines_mem l 0 x hx).1
  have hml := mkLines_len l 0
  refine Assemble_spec (st := selfL) (fun t => Nat.le_succ 1) hg (by omega) ?_ ?_ ?_ ?_ ?_
  · rw [hls]
    intro x hx hm
    obtain ⟨-, ⟨i, hi, hxt⟩, -⟩ := mkLines_mem l 0 x hx
    have := textF_len i
    rw [hxt]
    exact ⟨stands_plain (by omega) (text_plain (h i hi)), fun y hy => by simp [selfL] at hy; subst hy; omega⟩
  · rw [hls, hcnt]
    dsimp only
    omega
  · rw [hls]
    omega
  · rw [hls]
    intro x hx
    obtain ⟨-, -, h3, h4⟩ := mkLines_mem l 0 x hx
    omega
  · rw [hls, hcnt, go_plain (fun _ => rfl) l 0 _ [] h]
    dsimp only
    rw [List.nil_append]
    exact hK
set_option maxHeartbeats 1000000 in
theorem back_spec {w : World} {v : Value} {l : List IZ} (hg : Gm w) (hv : RowsAt w v 5 (l.map izC)) (hl : ∀ i ∈ l, izOk i) {K : Value → World → Prop} (hK : ∀ w', Ext [] w w' → K (.bool true) w') : callsK Tryd.prog 3 #[v] w K := by
  apply F3_ok
  unfold F3
  refine joinL.intro fun J0 hJ0 => ?_
  have hgo : ∀ (v : Value) (l : List IZ), RowsAt w v 5 (l.map izC) → l.length ≤ 100 → (∀ i ∈ l, izOk i) → J0 [v] w := by
    intro v l hv h100 hl
    apply hJ0
    intro _
    have hlv := hv.lenR (ty := 3) Tryd.underlying22
    rw [List.length_map] at hlv
    refine loopT.intro (fun ss w' => ∃ (k : Nat) (u : Value), k ≤ l.length ∧ ss = [.string ⟨(textL backF ((l.take k).filter encOk)).toArray⟩, u, .int .i64 (k : Nat)] ∧ OwnR w' w.heap.size 24 1 u ((((l.take k).filter encOk).map encR).map wC) ∧ Ext [] w w')
      (fun st _ => match st with
        | [_, _, .int _ z] => l.length - z.toNat
        | _ => 0) ⟨0, _, Nat.zero_le _, rfl, OwnR.nil, Ext.refl⟩ ?_
    rintro ss w1 ⟨k, u, hk, rfl, ho, hx1⟩ _
    have hfl : ((l.take k).filter encOk).length ≤ k := Nat.le_trans (List.length_filter_le _ _) (by simp; omega)
    have htl := back_len ((l.take k).filter encOk)
    by_cases h4 : k < l.length
    · obtain ⟨i, hi⟩ : ∃ i, l[k]? = some i := ⟨_, List.getElem?_eq_getElem h4⟩
      have hik := hl i (List.mem_of_getElem? hi)
      have hrow : (l.map izC)[k]? = some (izC i) := by rw [List.getElem?_map, hi]; rfl
      have hv1 := hv.ext hx1 (by simp)
      obtain ⟨b0, o0, lb, E0, f0, hix, hb0, hfit, hblt, hbk, hsub, hget⟩ := RowsAt.ixR (P := Tryd.prog) (t := 22) Tryd.underlying22 Tryd.sizeOf28 hv1 hrow
      have hs := hsub o0 rfl
      have hnx : (l.take (k + 1)).filter encOk = (l.take k).filter encOk ++ (if encOk i then [i] else []) := by
        rw [List.take_add_one, hi, List.filter_append]
        congr 1
        cases h : encOk i <;> simp [h]
      simp (disch := first | assumption | omega | (simp only [szR, izC_len, izC_all] <;> omega) | rfl | decide) only [gen0, gen1, gen2, rulesC, rulesX, rulesA, rulesL, litR, bolR, Nat.reduceAdd, Nat.reduceLeDiff, numR, memR, valR, heapR, updR, intR, decR, extR, slR, segR, thenR, pnR, Int.reduceToNat, Int.reduceAdd, Int.reduceSub, Int.reduceLT, Int.reduceLE, Nat.reduceSub, Nat.reduceMul, Nat.reduceEqDiff, List.getD_cons_zero, List.getD_cons_succ, hlv]
      refine joinL.intro fun J4 hJ4 => ?_
      simp (disch := first | assumption | omega | (simp only [szR, izC_len, izC_all] <;> omega) | rfl | decide) only [gen0, gen1, gen2, rulesC, rulesX, rulesA, rulesL, litR, bolR, Nat.reduceAdd, Nat.reduceLeDiff, numR, memR, valR, heapR, updR, intR, decR, extR, slR, segR, thenR, pnR, Int.reduceToNat, Int.reduceAdd, Int.reduceSub, Int.reduceLT, Int.reduceLE, Nat.reduceSub, Nat.reduceMul, Nat.reduceEqDiff, hix, hb0, hs]
      refine Encode_spec hik fun w2 hx2 => ?_
      have hb2 := hx2.at hb0 (by simp)
      simp (disch := first | assumption | omega | (simp only [szR, izC_len, izC_all] <;> omega) | rfl | decide) only [gen0, gen1, gen2, rulesC, rulesX, rulesA, rulesL, litR, bolR, Nat.reduceAdd, Nat.reduceLeDiff, numR, memR, valR, heapR, updR, intR, decR, extR, slR, segR, thenR, pnR, Int.reduceToNat, Int.reduceAdd, Int.reduceSub, Int.reduceLT, Int.reduceLE, Nat.reduceSub, Nat.reduceMul, Nat.reduceEqDiff, hix, hb2, hs]
      refine Text_spec hik fun w3 hx3 => ?_
      have hx13 := hx2.trans hx3 (by simp)
      have hlt := textF_len i
      refine Parse_spec ((hg.ext hx1).ext hx13) (by omega) fun w4 hx4 => ?_
      have zz1 := iz_over
      have zz2 := iz_put
      rw [show izC izZ = [.int .i64 0, .int .i64 0, .int .i64 0, .int .i64 0, .int .i64 0] from rfl] at zz1 zz2
      have hx14 := hx13.trans hx4 (by simp)
      have hnext : ∀ (t : List UInt8) (u' : Value) w', t = textL backF ((l.take (k + 1)).filter encOk) → OwnR w' w.heap.size 24 1 u' ((((l.take (k + 1)).filter encOk).map encR).map wC) → Ext [] w w' → J4 [.string ⟨t.toArray⟩, u'] w' := by
        intro t u' w' ht a1 a2
        apply hJ4
        intro _
        rw [ht]
        simp (disch := first | assumption | omega | (simp only [szR, izC_len, izC_all] <;> omega) | rfl | decide) only [gen0, gen1, gen2, rulesC, rulesX, rulesA, rulesL, litR, bolR, Nat.reduceAdd, Nat.reduceLeDiff, numR, memR, valR, heapR, updR, intR, decR, extR, slR, segR, thenR, pnR, Int.reduceToNat, Int.reduceAdd, Int.reduceSub, Int.reduceLT, Int.reduceLE, Nat.reduceSub, Nat.reduceMul, Nat.reduceEqDiff, List.getD_cons_zero, List.getD_cons_succ]
        exact ⟨⟨k + 1, u', by omega, rfl, a1, a2⟩, by first | omega | (simp <;> omega)⟩
      cases he : encOk i with
      | false =>
        have ht0 := text_none he
        rw [he, if_neg (by decide), List.append_nil] at hnx
        have hN := neqS [] []
        rw [ht0, parse_nil]
        dsimp only
        have hxz : Ext [] w4 (w4.alloc (.cells (izC izZ).toArray 28)) := Ext.alloc Ext.refl _ _
        simp (disch := first | assumption | omega | (simp only [szR, izC_len, izC_all] <;> omega) | rfl | decide) only [gen0, gen1, gen2, rulesC, rulesX, rulesA, rulesL, litR, bolR, Nat.reduceAdd, Nat.reduceLeDiff, numR, memR, valR, heapR, updR, intR, decR, extR, slR, segR, thenR, pnR, Int.reduceToNat, Int.reduceAdd, Int.reduceSub, Int.reduceLT, Int.reduceLE, Nat.reduceSub, Nat.reduceMul, Nat.reduceEqDiff, joinBR, zz1, zz2, hN]
        exact hnext _ u _ (by rw [hnx]) (by rw [hnx]; exact (ho.ext hx14 (by simp)).ext hxz (by simp)) ((hx1.trans hx14 (by simp)).trans hxz (by simp))
      | true =>
        rw [he, if_pos rfl] at hnx
        obtain ⟨x, hpx, hag⟩ := parse_back he
        obtain ⟨e1, e2⟩ := agree_enc hag
        have etx := text_agree he hag
        obtain ⟨b, t, etb, -⟩ := text_head he
        have hN := neqS (textF i) []
        have hNE : decide (textF i ≠ []) = true := by rw [etb]; rfl
        have hN2 := neqS (textF i) (textF i)
        have hxok : izOk x := by
          have := parseF_ok (textF i)
          rwa [hpx] at this
        rw [hpx]
        simp (disch := first | assumption | omega | (simp only [szR, izC_len, izC_all] <;> omega) | rfl | decide) only [gen0, gen1, gen2, rulesC, rulesX, rulesA, rulesL, litR, bolR, Nat.reduceAdd, Nat.reduceLeDiff, numR, memR, valR, heapR, updR, intR, decR, extR, slR, segR, thenR, pnR, Int.reduceToNat, Int.reduceAdd, Int.reduceSub, Int.reduceLT, Int.reduceLE, Nat.reduceSub, Nat.reduceMul, Nat.reduceEqDiff, joinBR, zz1, zz2, hN, hNE, izC_sub]
        have hxa : Ext [] w4 (w4.alloc (.cells (izC x).toArray 28)) := Ext.alloc Ext.refl _ _
        have gx : (w4.alloc (.cells (izC x).toArray 28)).heap[w4.heap.size]? = some (.cells (izC x).toArray 28 (0, 0)) := alloc_at rfl
        refine Encode_spec hxok fun w5 hx5 => ?_
        have gx5 := hx5.at gx (by simp)
        have lx5 := lt_of_at gx5
        rw [e1, e2, he]
        simp (disch := first | assumption | omega | (simp only [szR, izC_len, izC_all] <;> omega) | rfl | decide) only [gen0, gen1, gen2, rulesC, rulesX, rulesA, rulesL, litR, bolR, Nat.reduceAdd, Nat.reduceLeDiff, numR, memR, valR, heapR, updR, intR, decR, extR, slR, segR, thenR, pnR, Int.reduceToNat, Int.reduceAdd, Int.reduceSub, Int.reduceLT, Int.reduceLE, Nat.reduceSub, Nat.reduceMul, Nat.reduceEqDiff, joinBR, gx5, izC_sub]
        refine Text_spec hxok fun w6 hx6 => ?_
        rw [etx]
        have hx16 := ((hx14.trans hxa (by simp)).trans hx5 (by simp)).trans hx6 (by simp)
        have htk := back_len ((l.take k).filter encOk)
        have hA1 := addS (a := textL backF ((l.take k).filter encOk)) (b := [32, 32]) (by simp; omega)
        have hA2 := addS (a := textL backF ((l.take k).filter encOk) ++ [32, 32]) (b := textF i) (by simp; omega)
        have hA3 := addS (a := textL backF ((l.take k).filter encOk) ++ [32, 32] ++ textF i) (b := [10]) (by simp; omega)
        have hT : textL backF ((l.take k).filter encOk) ++ [32, 32] ++ textF i ++ [10] = textL backF ((l.take (k + 1)).filter encOk) := by
          rw [hnx]
          simp [textL, backF]
        have hd : decide (textF i ≠ textF i) = false := by simp
        simp (disch := first | assumption | omega | (simp only [szR, izC_len, izC_all] <;> omega) | rfl | decide) only [gen0, gen1, gen2, rulesC, rulesX, rulesA, rulesL, litR, bolR, Nat.reduceAdd, Nat.reduceLeDiff, numR, memR, valR, heapR, updR, intR, decR, extR, slR, segR, thenR, pnR, Int.reduceToNat, Int.reduceAdd, Int.reduceSub, Int.reduceLT, Int.reduceLE, Nat.reduceSub, Nat.reduceMul, Nat.reduceEqDiff, joinBR, hN2, hd, hA1, hA2, hA3, List.getD_cons_zero, List.getD_cons_succ]
        have hxs : Ext [] w6 (w6.alloc (.cells (wC (encR i)).toArray 24)) := Ext.alloc Ext.refl _ _
        have hx17 := hx16.trans hxs (by simp)
        refine appU2 (k := encR i) (ho.ext hx17 (by simp)) (alloc_at rfl) (by simp; omega) (by have := hx1.size; have := hx17.size; omega) fun u' w7 ho7 ha7 _ => ?_
        rw [show (((l.take k).filter encOk).map encR).map wC ++ [wC (encR i)] = (((l.take (k + 1)).filter encOk).map encR).map wC by rw [hnx]; simp] at ho7
        exact hnext _ u' w7 hT ho7 (ha7.ext w [] (Nat.le_refl _) (hx1.trans hx17 (by simp)))
    · obtain rfl : k = l.length := by omega
      rw [List.take_length] at ho hfl htl ⊢
      simp (disch := first | assumption | omega | (simp only [szR, izC_len, izC_all] <;> omega) | rfl | decide) only [gen0, gen1, gen2, rulesC, rulesX, rulesA, rulesL, litR, bolR, Nat.reduceAdd, Nat.reduceLeDiff, numR, memR, valR, heapR, updR, intR, decR, extR, slR, segR, thenR, pnR, Int.reduceToNat, Int.reduceAdd, Int.reduceSub, Int.reduceLT, Int.reduceLE, Nat.reduceSub, Nat.reduceMul, Nat.reduceEqDiff, List.getD_cons_zero, List.getD_cons_succ, hlv]
      refine back_asm (hg.ext hx1) (by omega) (fun i hi => (List.mem_filter.1 hi).2) fun m w2 hm hx2 _ => ?_
      generalize l.filter encOk = d at *
      have hlm := hm.lenR (ty := 3) Tryd.underlying23
      have hlu := ho.rows.lenR (ty := 3) Tryd.underlying23
      rw [List.length_map, List.length_map] at hlm hlu
      simp (disch := first | assumption | omega | (simp only [szR, izC_len, izC_all] <;> omega) | rfl | decide) only [gen0, gen1, gen2, rulesC, rulesX, rulesA, rulesL, litR, bolR, Nat.reduceAdd, Nat.reduceLeDiff, numR, memR, valR, heapR, updR, intR, decR, extR, slR, segR, thenR, pnR, Int.reduceToNat, Int.reduceAdd, Int.reduceSub, Int.reduceLT, Int.reduceLE, Nat.reduceSub, Nat.reduceMul, Nat.reduceEqDiff, joinBR, hlm, hlu, List.getD_cons_zero, List.getD_cons_succ]
      have hx12 := hx1.trans hx2 (by simp)
      have hu2 := ho.rows.ext hx2 (by simp)
      refine loopT.intro (fun ss w' => ∃ (k : Nat), k ≤ d.length ∧ ss = [.int .i64 (k : Nat)] ∧ Ext [] w2 w')
        (fun st _ => match st with
          | [.int _ z] => d.length - z.toNat
          | _ => 0) ⟨0, Nat.zero_le _, rfl, Ext.refl⟩ ?_
      rintro ss w3 ⟨k, hk, rfl, hx3⟩ _
      by_cases h5 : k < d.length
      · obtain ⟨i, hi⟩ : ∃ i, d[k]? = some i := ⟨_, List.getElem?_eq_getElem h5⟩
        have hrow : ((d.map encR).map wC)[k]? = some (wC (encR i)) := by rw [List.getElem?_map, List.getElem?_map, hi]; rfl
        obtain ⟨b0, o0, lb, E0, f0, hix, hb0, hfit, hblt, hbk, hsub, hget⟩ := RowsAt.ixR (P := Tryd.prog) (t := 23) Tryd.underlying23 Tryd.sizeOf24 (hm.ext hx3 (by simp)) hrow
        obtain ⟨b1, o1, lb1, E1, f1, hix1, hb1, hfit1, hblt1, hbk1, hsub1, hget1⟩ := RowsAt.ixR (P := Tryd.prog) (t := 23) Tryd.underlying23 Tryd.sizeOf24 (hu2.ext hx3 (by simp)) hrow
        have hc0 : lb[o0]? = some (.int .u32 (encR i : Nat)) := by simpa [wC] using hget (o0 + 0) 0 rfl (by omega)
        have hc1 : lb1[o1]? = some (.int .u32 (encR i : Nat)) := by simpa [wC] using hget1 (o1 + 0) 0 rfl (by omega)
        simp (disch := first | assumption | omega | (simp only [szR, izC_len, izC_all] <;> omega) | rfl | decide) only [gen0, gen1, gen2, rulesC, rulesX, rulesA, rulesL, litR, bolR, Nat.reduceAdd, Nat.reduceLeDiff, numR, memR, valR, heapR, updR, intR, decR, extR, slR, segR, thenR, pnR, Int.reduceToNat, Int.reduceAdd, Int.reduceSub, Int.reduceLT, Int.reduceLE, Nat.reduceSub, Nat.reduceMul, Nat.reduceEqDiff, joinBR, hlm, List.getD_cons_zero, List.getD_cons_succ, hix, hb0, hc0, hix1, hb1, hc1]
        exact ⟨⟨k + 1, by omega, rfl, by (repeat first | assumption | exact Ext.refl | apply Ext.alloc | apply Ext.drew | (refine Ext.updN ?_ ?_; (focus first | omega | (simp only [szR] <;> omega))) | (refine Ext.updI ?_ ?_; (focus (simp; done))))⟩, by first | omega | (simp <;> omega)⟩
      · obtain rfl : k = d.length := by omega
        simp (disch := first | assumption | omega | (simp only [szR, izC_len, izC_all] <;> omega) | rfl | decide) only [gen0, gen1, gen2, rulesC, rulesX, rulesA, rulesL, litR, bolR, Nat.reduceAdd, Nat.reduceLeDiff, numR, memR, valR, heapR, updR, intR, decR, extR, slR, segR, thenR, pnR, Int.reduceToNat, Int.reduceAdd, Int.reduceSub, Int.reduceLT, Int.reduceLE, Nat.reduceSub, Nat.reduceMul, Nat.reduceEqDiff, joinBR, hlm, List.getD_cons_zero]
        exact one_spec ((hg.ext hx12).ext hx3) fun w4 hx4 => hK _ ((hx12.trans hx3 (by simp)).trans hx4 (by simp))
  have hlv := hv.lenR (ty := 3) Tryd.underlying22
  rw [List.length_map] at hlv
  by_cases h100 : l.length ≤ 100
  · simp (disch := first | assumption | omega | (simp only [szR, izC_len, izC_all] <;> omega) | rfl | decide) only [gen0, gen1, gen2, rulesC, rulesX, rulesA, rulesL, litR, bolR, Nat.reduceAdd, Nat.reduceLeDiff, numR, memR, valR, heapR, updR, intR, decR, extR, slR, segR, thenR, pnR, Int.reduceToNat, Int.reduceAdd, Int.reduceSub, Int.reduceLT, Int.reduceLE, Nat.reduceSub, Nat.reduceMul, Nat.reduceEqDiff, hlv]
    exact hgo v l hv h100 hl
  · obtain ⟨v', hc1, hc2, hc3⟩ := RowsAt.cut (P := Tryd.prog) (t := 22) Tryd.underlying22 Tryd.sizeOf28 hv (lo := none) (hi := some (.int .i64 100)) (l := 0) (h := 100) (by omega) (by simp; omega) (.inl ⟨rfl, rfl⟩) (.inr ⟨_, _, rfl, rfl⟩)
    have hr := hc2 w hv
    rw [List.drop_zero, ← List.map_take] at hr
    simp (disch := first | assumption | omega | (simp only [szR, izC_len, izC_all] <;> omega) | rfl | decide) only [gen0, gen1, gen2, rulesC, rulesX, rulesA, rulesL, litR, bolR, Nat.reduceAdd, Nat.reduceLeDiff, numR, memR, valR, heapR, updR, intR, decR, extR, slR, segR, thenR, pnR, Int.reduceToNat, Int.reduceAdd, Int.reduceSub, Int.reduceLT, Int.reduceLE, Nat.reduceSub, Nat.reduceMul, Nat.reduceEqDiff, hlv, hc1]
    exact hgo v' (l.take 100) hr (by simp; omega) fun i hi => hl i (List.mem_of_mem_take hi)
end Go.Proofs.YtobkjnmdbkieeaaDoor
