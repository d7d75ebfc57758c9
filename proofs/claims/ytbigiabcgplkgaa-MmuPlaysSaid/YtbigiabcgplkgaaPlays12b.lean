/- Under any steps a unit tells what the document says: the walk; conditions: those of each theorem. -/
import Derived.Test.YtbigiabcgplkgaaPlays12
namespace Go.Proofs.Ytbigiabcgplkgaa
open Go.Fx Go.ChangeShapes Go.WideShapes
set_option maxRecDepth 100000
set_option linter.unusedSimpArgs false
set_option linter.unusedVariables false
theorem cellsA12 : Try.prog.cellsOf 91 = 18 := by kernel_rfl
theorem open_a12 {H : Type} {enc : TypeId × Value → H} {w : World} {base fuel : Nat} {spare : Nat → Bool} {held : Bool} {cs : List Value} {x : DataW H × List MemPlace} (h : DataW.trod enc Try.prog w base spare held fuel 91 cs = some x) : ∃ c : A12, cs = a12C c ∧ c.va < 18446744073709551616 ∧ c.e < 18446744073709551616 := by
  have hl := (fields_of Try.underlying91 h).1
  rw [cellsA12] at hl
  obtain ⟨a, h0, -⟩ := field_int Try.underlying91 h 0 0 rfl Try.underlying3 cellsI
  obtain ⟨b, h1, -⟩ := field_int Try.underlying91 h 1 1 rfl Try.underlying3 cellsI
  obtain ⟨n, h2, -⟩ := field_int Try.underlying91 h 2 2 rfl Try.underlying3 cellsI
  obtain ⟨va, h3, w3⟩ := field_int Try.underlying91 h 3 3 rfl Try.underlying23 cellsU
  obtain ⟨tg, h4⟩ := field_bool Try.underlying91 h 4 4 rfl Try.underlying4 cellsB
  have hva := u64_of w3
  obtain ⟨m, y, hy⟩ := (fields_of Try.underlying91 h).2 5 _ rfl
  have hy2 : DataW.trod enc Try.prog w base spare held m 32 ((cs.drop 5).take 13) = some y := by
    have e := cellsE
    have : (cs.drop 5).take (Try.prog.cellsOf 32) = (cs.drop 5).take 13 := by rw [e]
    rw [← this]
    exact hy
  obtain ⟨f, e, he, hn⟩ := open_entry hy2
  match cs, hl with
  | c0 :: c1 :: c2 :: c3 :: c4 :: rest, hl =>
    simp at h0 h1 h2 h3 h4
    subst h0 h1 h2 h3 h4
    simp only [List.drop_succ_cons, List.drop_zero] at he
    rw [List.take_of_length_le (by simp at hl; omega)] at he
    subst he
    refine ⟨⟨a, b, n, va.toNat, tg, f, e⟩, ?_, by simp only; omega, hn⟩
    have ev : ((va.toNat : Nat) : Int) = va := by omega
    simp only [a12C, ev]
theorem argA12 {H : Type} {enc : TypeId × Value → H} {w : World} {base b0 : Nat} {spare : Nat → Bool} {held : Bool} {r : Reach} {v : Value} {d : DataW H} {ps : List MemPlace} (hval : Value.okWide Try.prog w r b0 84 v) (h : DataW.Trod enc Try.prog w base spare held 84 v d ps) :
    ∃ l : List A12, RowsAt w v 18 (l.map a12C) ∧ ∀ c ∈ l, c.va < 18446744073709551616 ∧ c.e < 18446744073709551616 := by
  obtain ⟨fuel, x, hx⟩ := slice_trod Try.underlying84 hval h
  obtain ⟨v', rows, he, hr, hall⟩ := open_rows Try.underlying84 cellsA12 (by omega) hx
  have : ∃ l : List A12, rows = l.map a12C ∧ ∀ c ∈ l, c.va < 18446744073709551616 ∧ c.e < 18446744073709551616 := by
    clear hr
    induction rows with
    | nil => exact ⟨[], rfl, by simp⟩
    | cons r rows ih =>
      obtain ⟨l, rfl, hl⟩ := ih fun r hr => hall r (List.mem_cons_of_mem _ hr)
      obtain ⟨m, y, hy⟩ := hall r (List.mem_cons_self ..)
      obtain ⟨c, rfl, hc⟩ := open_a12 hy
      exact ⟨c :: l, rfl, fun d hd => (List.mem_cons.1 hd).elim (fun e => e ▸ hc) (hl d)⟩
  obtain ⟨l, rfl, hl⟩ := this
  cases he
  exact ⟨l, hr, hl⟩
theorem a12_put (c : A12) : a12C c ++ List.drop (a12C c).length [.int .i64 0, .int .i64 0, .int .i64 0, .int .u64 0, .bool false, .bool false, .bool false, .bool false, .bool false, .bool false, .bool false, .bool false, .bool false, .bool false, .bool false, .bool false, .bool false, .int .u64 0] = a12C c := by simp [a12C, entC]
set_option maxHeartbeats 8000000 in
theorem mplays_spec {w : World} {v : Value} {l : List A12} (hv : RowsAt w v 18 (l.map a12C)) (hl : ∀ c ∈ l, c.va < 18446744073709551616 ∧ c.e < 18446744073709551616) {K : Value → World → Prop} (hK : ∀ w', Ext [] w w' → K (.bool true) w') :
    callsK Try.prog 10 #[v] w K := by
  have hsr : ∀ L : List Value, L.length = 4 → splice [.int .i64 0, .slice none 0 0, .slice none 0 0, .slice none 0 0] 0 L = L := fun L h => splice_all (by rw [h]; rfl)
  have hlv := hv.lenR (ty := 3) Try.underlying84
  rw [List.length_map] at hlv
  apply F10_ok
  unfold F10
  simp (disch := first | assumption | omega | (simp only [szR, entC_len, entC_all, un_len, plC_len, plC_all, ruC_len, a12_len, a12_all] <;> omega) | rfl | decide) only [gen0, gen1, gen2, rulesM, rulesU, litR, bolR, Nat.reduceAdd, Nat.reduceLeDiff, numR, memR, valR, heapR, updR, intR, decR, extR, slR, segR, thenR, pnR, Int.reduceToNat, Int.reduceAdd, Int.reduceSub, Int.reduceLT, Int.reduceLE, Nat.reduceSub, Nat.reduceMul, Nat.reduceEqDiff]
  refine setup_spec fun w1 r q base c0 g0 L P xa xb hm hr hc hrb hqb hwr hwq hbw hx1 => ?_
  have hs1 := hx1.size
  obtain ⟨hlenL, hallL, hsubL⟩ := hr.cells
  have hml := hm.lt
  simp (disch := first | assumption | omega | (simp only [szR, entC_len, entC_all, un_len, plC_len, plC_all, ruC_len, a12_len, a12_all] <;> omega) | rfl | decide) only [gen0, gen1, gen2, rulesM, rulesU, litR, bolR, Nat.reduceAdd, Nat.reduceLeDiff, numR, memR, valR, heapR, updR, intR, decR, extR, slR, segR, thenR, pnR, Int.reduceToNat, Int.reduceAdd, Int.reduceSub, Int.reduceLT, Int.reduceLE, Nat.reduceSub, Nat.reduceMul, Nat.reduceEqDiff, hlenL, hallL, hsr, zeroU]
  have hxw : ∀ b, blockOf xa = some b ∨ blockOf xb = some b → base ≤ b := fun b hb => hb.elim (hr.lowa b) (hr.lowb b)
  have hxw2 : P ≠ [] → ∀ b, blockOf xa = some b ∨ blockOf xb = some b → b < w1.heap.size := fun h0 b hb => hb.elim (fun hb => hr.rowa.blt (by simpa using h0) b hb) (fun hb => hr.rowb.blt (by simpa using h0) b hb)
  refine loopT.intro (fun st w' => ∃ (k : Nat) (z : Int) (D : List Dn) (G : Nat → List Rn) (m : Nat → Int) (ai : Nat) (g : Bool) (cc : Nat), k ≤ l.length ∧ k ≤ 60 ∧ st = [.int .i64 z] ∧ z = k ∧ In12 w' r q w1.heap.size (w1.heap.size + 1) (w1.heap.size + 1 + 1) D G m ai g cc ∧ D.length ≤ k ∧ cc ≤ 480 + 8 * k ∧ Ext [] w w')
    (fun st _ => match st with
      | [.int _ z] => 60 - z.toNat
      | _ => 0) ⟨0, 0, [], fun _ => [], laidM twoE, 0, false, c0, by omega, by omega, rfl, rfl, ⟨⟨GoodR.none, Idx.none _, by simp⟩, ⟨74, (by first | with_reducible rfl | assumption | (simp (disch := first | assumption | omega | (simp only [szR, entC_len, entC_all, un_len, plC_len, plC_all, ruC_len, a12_len, a12_all] <;> omega) | rfl | decide) only [gen0, gen1, gen2, rulesM, rulesU, litR, bolR, Nat.reduceAdd, Nat.reduceLeDiff, numR, memR, valR, heapR, updR, intR, decR, extR, slR, segR, thenR, pnR, Int.reduceToNat, Int.reduceAdd, Int.reduceSub, Int.reduceLT, Int.reduceLE, Nat.reduceSub, Nat.reduceMul, Nat.reduceEqDiff, zeroU] <;> rfl))⟩, ⟨g0, hm.ext (S := []) (by (repeat first | assumption | exact Ext.refl | apply Ext.alloc | apply Ext.drew | (refine Ext.updN ?_ ?_; (focus first | omega | (simp only [szR] <;> omega))) | (refine Ext.updI ?_ ?_; (focus (simp; done))))) (by simp) (by simp)⟩, ⟨L, P, xa, xb, base, (by first | with_reducible rfl | assumption | (simp (disch := first | assumption | omega | (simp only [szR, entC_len, entC_all, un_len, plC_len, plC_all, ruC_len, a12_len, a12_all] <;> omega) | rfl | decide) only [gen0, gen1, gen2, rulesM, rulesU, litR, bolR, Nat.reduceAdd, Nat.reduceLeDiff, numR, memR, valR, heapR, updR, intR, decR, extR, slR, segR, thenR, pnR, Int.reduceToNat, Int.reduceAdd, Int.reduceSub, Int.reduceLT, Int.reduceLE, Nat.reduceSub, Nat.reduceMul, Nat.reduceEqDiff, hsr, hlenL] <;> rfl)), hr.ext (S := []) (by (repeat first | assumption | exact Ext.refl | apply Ext.alloc | apply Ext.drew | (refine Ext.updN ?_ ?_; (focus first | omega | (simp only [szR] <;> omega))) | (refine Ext.updI ?_ ?_; (focus (simp; done))))) (by simp), by omega, fun h0 b hb => by have := hxw b hb; have := hxw2 h0 b hb; simp; omega⟩, ⟨.slice none 0 0, .slice none 0 0, (by first | with_reducible rfl | assumption | (simp (disch := first | assumption | omega | (simp only [szR, entC_len, entC_all, un_len, plC_len, plC_all, ruC_len, a12_len, a12_all] <;> omega) | rfl | decide) only [gen0, gen1, gen2, rulesM, rulesU, litR, bolR, Nat.reduceAdd, Nat.reduceLeDiff, numR, memR, valR, heapR, updR, intR, decR, extR, slR, segR, thenR, pnR, Int.reduceToNat, Int.reduceAdd, Int.reduceSub, Int.reduceLT, Int.reduceLE, Nat.reduceSub, Nat.reduceMul, Nat.reduceEqDiff, ruC_zero] <;> rfl)), OwnR.nil.rows (base := 0) (e := 153), OwnR.nil.rows (base := 0) (e := 37), by simp [blockOf], by simp [blockOf]⟩, by omega⟩, by simp, by omega, by (repeat first | assumption | exact Ext.refl | apply Ext.alloc | apply Ext.drew | (refine Ext.updN ?_ ?_; (focus first | omega | (simp only [szR] <;> omega))) | (refine Ext.updI ?_ ?_; (focus (simp; done))))⟩ ?_
  rintro st w' ⟨k, z, D, G, m, ai, g, cc, hk, hk60, rfl, rfl, hI, hD, hcc, hx'⟩ _
  have hv' := hv.ext hx' (by simp)
  have hbt := lt_of_at hI.unit.choose_spec.choose_spec.1
  have hlen : (l.map a12C).length = l.length := List.length_map ..
  by_cases hlt : k < l.length ∧ k < 60
  · obtain ⟨b, o, cap, La, E, f, he, hb, hfit, hsub, -⟩ := hv'.row (k := k) (r := a12C l[k]) (by simp [hlt.1])
    have hbl := lt_of_at hb
    have hok := hl l[k] (List.getElem_mem hlt.1)
    have hix : ∀ w, (Instr.indexAt 84 v (.int .i64 k)).run Try.prog w = .ok (.pointer (some ⟨b, o + k * 18, none⟩)) w := by
      rw [he]
      intro w
      simp (disch := first | assumption | omega | (simp only [szR, entC_len, entC_all, un_len, plC_len, plC_all, ruC_len, a12_len, a12_all] <;> omega) | rfl | decide) only [gen0, gen1, gen2, rulesM, rulesU, litR, bolR, Nat.reduceAdd, Nat.reduceLeDiff, numR, memR, valR, heapR, updR, intR, decR, extR, slR, segR, thenR, pnR, Int.reduceToNat, Int.reduceAdd, Int.reduceSub, Int.reduceLT, Int.reduceLE, Nat.reduceSub, Nat.reduceMul, Nat.reduceEqDiff, hlen]
    generalize l[k] = c at hsub hok
    simp (disch := first | assumption | omega | (simp only [szR, entC_len, entC_all, un_len, plC_len, plC_all, ruC_len, a12_len, a12_all] <;> omega) | rfl | decide) only [gen0, gen1, gen2, rulesM, rulesU, litR, bolR, Nat.reduceAdd, Nat.reduceLeDiff, numR, memR, valR, heapR, updR, intR, decR, extR, slR, segR, thenR, pnR, Int.reduceToNat, Int.reduceAdd, Int.reduceSub, Int.reduceLT, Int.reduceLE, Nat.reduceSub, Nat.reduceMul, Nat.reduceEqDiff, joinBR, hlv, hix, hb, hsub, a12_put]
    refine joinL.intro fun J3 hJ3 => ?_
    have hact : (w'.alloc (.cells (a12C c).toArray 91)).heap[w'.heap.size]? = some (.cells (a12C c).toArray 91 (0, 0)) := alloc_at rfl
    have hxa : Ext [] w' (w'.alloc (.cells (a12C c).toArray 91)) := by (repeat first | assumption | exact Ext.refl | apply Ext.alloc | apply Ext.drew | (refine Ext.updN ?_ ?_; (focus first | omega | (simp only [szR] <;> omega))) | (refine Ext.updI ?_ ?_; (focus (simp; done))))
    refine reg3_12 (K := K) (t0 := v) hact (hI.ext hxa) (by omega) (by omega) (by omega) hok.1 hok.2 fun D' G' m' ai' g' cc' w2 hI2 hD2 hcc2 hx2 => ?_
    have hxw2 : Ext [] w w2 := (hx'.trans hxa (by simp)).trans hx2 (by simp; omega)
    obtain ⟨vl, ve, hU, hvl, hve, hvlb, hveb⟩ := id hI2.unit
    have hua := ruC_at vl ve 0 ai' g'
    have hll := hvl.lenR (ty := 3) Try.underlying86
    rw [List.length_map] at hll
    have h2S := lnS_two (D := D') hI2.ok.good.two
    have hll2 : (upto (lnS D' G') 4).length = (upt G' 4).length := by rw [upto_lnS, List.length_map]
    have hl2 := w2.heap.size
    apply hJ3
    intro _
    refine joinL.intro fun J5 hJ5 => ?_
    have hfin : ∀ w3, Ext [] w2 w3 → J5 [.bool false] w3 := by
      intro w3 hx3
      apply hJ5
      intro _
      simp (disch := first | assumption | omega | (simp only [szR, entC_len, entC_all, un_len, plC_len, plC_all, ruC_len, a12_len, a12_all] <;> omega) | rfl | decide) only [gen0, gen1, gen2, rulesM, rulesU, litR, bolR, Nat.reduceAdd, Nat.reduceLeDiff, numR, memR, valR, heapR, updR, intR, decR, extR, slR, segR, thenR, pnR, Int.reduceToNat, Int.reduceAdd, Int.reduceSub, Int.reduceLT, Int.reduceLE, Nat.reduceSub, Nat.reduceMul, Nat.reduceEqDiff]
      exact ⟨⟨k + 1, (k : Int) + 1, D', G', m', ai', g', cc', by omega, by omega, rfl, by omega, hI2.ext hx3, by omega, by omega, hxw2.trans hx3 (by simp)⟩, by simp; omega⟩
    clear hJ5 hJ3
    simp (disch := first | assumption | omega | (simp only [szR, entC_len, entC_all, un_len, plC_len, plC_all, ruC_len, a12_len, a12_all] <;> omega) | rfl | decide) only [gen0, gen1, gen2, rulesM, rulesU, litR, bolR, Nat.reduceAdd, Nat.reduceLeDiff, numR, memR, valR, heapR, updR, intR, decR, extR, slR, segR, thenR, pnR, Int.reduceToNat, Int.reduceAdd, Int.reduceSub, Int.reduceLT, Int.reduceLE, Nat.reduceSub, Nat.reduceMul, Nat.reduceEqDiff, hU, hua, hll]
    refine ⟨?_, ?_⟩
    all_goals
      refine Lines_spec (hI2.at5.ext (U := []) (by (repeat first | assumption | exact Ext.refl | apply Ext.alloc | apply Ext.drew | (refine Ext.updN ?_ ?_; (focus first | omega | (simp only [szR] <;> omega))) | (refine Ext.updI ?_ ?_; (focus (simp; done))))) (by simp)) h2S fun v210 w3 hown hx3 => ?_
      have hrows : RowsAt w3 v210 16 ((upto (lnS D' G') 4).map lnC) := Own.rows (by rw [List.length_map]; exact hown) rfl (by simp [lnC_len])
      have hl1 := hrows.lenR (ty := 3) Try.underlying105
      rw [List.length_map, hll2] at hl1
      have hx23 : Ext [] w2 w3 := Ext.trans (S := []) (by (repeat first | assumption | exact Ext.refl | apply Ext.alloc | apply Ext.drew | (refine Ext.updN ?_ ?_; (focus first | omega | (simp only [szR] <;> omega))) | (refine Ext.updI ?_ ?_; (focus (simp; done))))) hx3 (by simp)
      have hU3 := hx23.at hU (by simp)
      simp (disch := first | assumption | omega | (simp only [szR, entC_len, entC_all, un_len, plC_len, plC_all, ruC_len, a12_len, a12_all] <;> omega) | rfl | decide) only [gen0, gen1, gen2, rulesM, rulesU, litR, bolR, Nat.reduceAdd, Nat.reduceLeDiff, numR, memR, valR, heapR, updR, intR, decR, extR, slR, segR, thenR, pnR, Int.reduceToNat, Int.reduceAdd, Int.reduceSub, Int.reduceLT, Int.reduceLE, Nat.reduceSub, Nat.reduceMul, Nat.reduceEqDiff, hl1, hU3, hua, hll]
      exact hfin _ hx23
  · have hor : ¬ k < l.length ∨ k < l.length ∧ k = 60 := by omega
    rcases hor with h | h
    all_goals
      simp (disch := first | assumption | omega | (simp only [szR, entC_len, entC_all, un_len, plC_len, plC_all, ruC_len, a12_len, a12_all] <;> omega) | rfl | decide) only [gen0, gen1, gen2, rulesM, rulesU, litR, bolR, Nat.reduceAdd, Nat.reduceLeDiff, numR, memR, valR, heapR, updR, intR, decR, extR, slR, segR, thenR, pnR, Int.reduceToNat, Int.reduceAdd, Int.reduceSub, Int.reduceLT, Int.reduceLE, Nat.reduceSub, Nat.reduceMul, Nat.reduceEqDiff, joinBR, hlv]
      refine loopT.intro (fun st w'' => ∃ (j : Nat), j ≤ 16 ∧ st = [.int .i64 (j : Int)] ∧ Ext [] w' w'')
        (fun st _ => match st with
          | [.int _ z] => 16 - z.toNat
          | _ => 0) ⟨0, by omega, rfl, by (repeat first | assumption | exact Ext.refl | apply Ext.alloc | apply Ext.drew | (refine Ext.updN ?_ ?_; (focus first | omega | (simp only [szR] <;> omega))) | (refine Ext.updI ?_ ?_; (focus (simp; done))))⟩ ?_
      rintro st w2 ⟨j, hj, rfl, hx2⟩ _
      have hI2 := hI.ext hx2
      obtain ⟨g1, hm2⟩ := id hI2.mem
      obtain ⟨L2, P2, xa2, xb2, base2, hL2, hr2, hbase2, -⟩ := id hI2.doc
      obtain ⟨hlen2, hall2, hsub2⟩ := hr2.cells
      have hs2 := hx2.size
      by_cases hj16 : j < 16
      · have e8 : (8192 : Int) + 8 * (j : Int) = ((8192 + j * 8 : Nat) : Int) := by omega
        simp (disch := first | assumption | omega | (simp only [szR, entC_len, entC_all, un_len, plC_len, plC_all, ruC_len, a12_len, a12_all] <;> omega) | rfl | decide) only [gen0, gen1, gen2, rulesM, rulesU, litR, bolR, Nat.reduceAdd, Nat.reduceLeDiff, numR, memR, valR, heapR, updR, intR, decR, extR, slR, segR, thenR, pnR, Int.reduceToNat, Int.reduceAdd, Int.reduceSub, Int.reduceLT, Int.reduceLE, Nat.reduceSub, Nat.reduceMul, Nat.reduceEqDiff, e8]
        refine Load_spec (a := 8192 + j * 8) (hm2.ext (S := []) (by (repeat first | assumption | exact Ext.refl | apply Ext.alloc | apply Ext.drew | (refine Ext.updN ?_ ?_; (focus first | omega | (simp only [szR] <;> omega))) | (refine Ext.updI ?_ ?_; (focus (simp; done))))) (by simp) (by simp)) (by omega) (by omega) (.inr (.inr (.inr rfl))) (by omega) fun w3 hx3 => ?_
        have hx23 : Ext [] w2 w3 := Ext.trans (S := []) (by (repeat first | assumption | exact Ext.refl | apply Ext.alloc | apply Ext.drew | (refine Ext.updN ?_ ?_; (focus first | omega | (simp only [szR] <;> omega))) | (refine Ext.updI ?_ ?_; (focus (simp; done))))) hx3 (by simp)
        have hL3 := hx23.at hL2 (by simp)
        simp (disch := first | assumption | omega | (simp only [szR, entC_len, entC_all, un_len, plC_len, plC_all, ruC_len, a12_len, a12_all] <;> omega) | rfl | decide) only [gen0, gen1, gen2, rulesM, rulesU, litR, bolR, Nat.reduceAdd, Nat.reduceLeDiff, numR, memR, valR, heapR, updR, intR, decR, extR, slR, segR, thenR, pnR, Int.reduceToNat, Int.reduceAdd, Int.reduceSub, Int.reduceLT, Int.reduceLE, Nat.reduceSub, Nat.reduceMul, Nat.reduceEqDiff, e8, hL3, hlen2, hsub2]
        refine rLoad_spec ((hr2.ext hx23 (by simp)).ext (S := []) (by (repeat first | assumption | exact Ext.refl | apply Ext.alloc | apply Ext.drew | (refine Ext.updN ?_ ?_; (focus first | omega | (simp only [szR] <;> omega))) | (refine Ext.updI ?_ ?_; (focus (simp; done))))) (by simp)) hm2.byte (by omega) (by omega) (by omega) (by omega) fun w4 hx4 => ?_
        have hx34 : Ext [] w3 w4 := Ext.trans (S := []) (by (repeat first | assumption | exact Ext.refl | apply Ext.alloc | apply Ext.drew | (refine Ext.updN ?_ ?_; (focus first | omega | (simp only [szR] <;> omega))) | (refine Ext.updI ?_ ?_; (focus (simp; done))))) hx4 (by simp)
        simp (disch := first | assumption | omega | (simp only [szR, entC_len, entC_all, un_len, plC_len, plC_all, ruC_len, a12_len, a12_all] <;> omega) | rfl | decide) only [gen0, gen1, gen2, rulesM, rulesU, litR, bolR, Nat.reduceAdd, Nat.reduceLeDiff, numR, memR, valR, heapR, updR, intR, decR, extR, slR, segR, thenR, pnR, Int.reduceToNat, Int.reduceAdd, Int.reduceSub, Int.reduceLT, Int.reduceLE, Nat.reduceSub, Nat.reduceMul, Nat.reduceEqDiff]
        exact ⟨⟨j + 1, by omega, by simp, (hx2.trans hx23 (by simp)).trans hx34 (by simp)⟩, by simp; omega⟩
      · obtain rfl : j = 16 := by omega
        simp (disch := first | assumption | omega | (simp only [szR, entC_len, entC_all, un_len, plC_len, plC_all, ruC_len, a12_len, a12_all] <;> omega) | rfl | decide) only [gen0, gen1, gen2, rulesM, rulesU, litR, bolR, Nat.reduceAdd, Nat.reduceLeDiff, numR, memR, valR, heapR, updR, intR, decR, extR, slR, segR, thenR, pnR, Int.reduceToNat, Int.reduceAdd, Int.reduceSub, Int.reduceLT, Int.reduceLE, Nat.reduceSub, Nat.reduceMul, Nat.reduceEqDiff]
        exact one12_spec fun w6 hx6 => hK _ ((hx'.trans hx2 (by simp)).trans hx6 (by simp))
end Go.Proofs.Ytbigiabcgplkgaa
