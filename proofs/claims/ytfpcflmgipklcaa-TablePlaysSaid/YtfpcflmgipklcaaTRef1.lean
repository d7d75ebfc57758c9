/- The document's tables: looked up; conditions: those of each theorem. -/
import Derived.Test.YtfpcflmgipklcaaTActs
import Derived.Test.YtfpcflmgipklcaaTOne2
import Derived.Test.YtfpcflmgipklcaaFQ
import Derived.Test.YtfpcflmgipklcaaRQ
namespace Go.Proofs.Ytfpcflmgipklcaa
open Go.Fx
set_option maxRecDepth 100000
set_option linter.unusedSimpArgs false
set_option linter.unusedVariables false
def uC (k : Nat) : List Value := [.int .u64 (k : Nat)]
/-- the document's tables: pages with their entries, and the tables below. -/
structure RT where
  ps : List (Nat × EntE)
  mid : List Nat
  low : List Nat
def tvC (v0 v1 v2 v3 : Value) : List Value := [v0, v1, v2, v3]
theorem tvC_len (v0 v1 v2 v3 : Value) : (tvC v0 v1 v2 v3).length = 4 := by simp [tvC]
theorem tvC_all {a0 a1 a2 a3 : Option Addr} {n0 n1 n2 n3 c0 c1 c2 c3 : Nat} : (tvC (.slice a0 n0 c0) (.slice a1 n1 c1) (.slice a2 n2 c2) (.slice a3 n3 c3)).all (fun v => v.oneCell') = true := by simp [tvC]; exact ⟨rfl, rfl, rfl, rfl⟩
theorem tvC_0 (v0 v1 v2 v3 : Value) : (tvC v0 v1 v2 v3)[0]? = some v0 := rfl
theorem tvC_1 (v0 v1 v2 v3 : Value) : (tvC v0 v1 v2 v3)[1]? = some v1 := rfl
theorem tvC_2 (v0 v1 v2 v3 : Value) : (tvC v0 v1 v2 v3)[2]? = some v2 := rfl
theorem tvC_3 (v0 v1 v2 v3 : Value) : (tvC v0 v1 v2 v3)[3]? = some v3 := rfl
theorem tvC_sub (v0 v1 v2 v3 : Value) : sub (tvC v0 v1 v2 v3) 0 4 = tvC v0 v1 v2 v3 := rfl
/-- four slices are the document's tables. -/
structure RefT (w : World) (v0 v1 v2 v3 : Value) (R : RT) : Prop where
  ps : OwnR w 0 23 1 v0 (R.ps.map fun p => uC p.1)
  es : OwnR w 0 46 13 v1 (R.ps.map fun p => entE p.2)
  mid : OwnR w 0 23 1 v2 (R.mid.map uC)
  low : OwnR w 0 23 1 v3 (R.low.map uC)
theorem RefT.ext {w w' : World} {v0 v1 v2 v3 : Value} {R : RT} {S : List Nat} (h : RefT w v0 v1 v2 v3 R) (hx : Ext S w w') (hs : ∀ b ∈ S, w.heap.size ≤ b) : RefT w' v0 v1 v2 v3 R := by
  have h0 : ∀ {E : TypeId} {n : Nat} {v : Value} {rows : List (List Value)}, OwnR w 0 E n v rows → OwnR w' 0 E n v rows := fun ho => ho.ext hx fun b hb hm => by
    have h1 := ho.blt b hb
    have h2 := hs b hm
    omega
  exact ⟨h0 h.ps, h0 h.es, h0 h.mid, h0 h.low⟩
theorem OwnR.kept {w w' : World} {base n : Nat} {E : TypeId} {v : Value} {rows : List (List Value)} (h : OwnR w base E n v rows) (hk : KeptO w w') (h1 : E ≠ 3) (h2 : E ≠ 85) (h3 : E ≠ 82) (h4 : E ≠ 121) : OwnR w' base E n v rows := by
  refine ⟨⟨h.own.1, h.own.2.imp id ?_⟩, h.size, h.one⟩
  rintro ⟨g, cap, cur, rfl, a1, a2, a3⟩
  exact ⟨g, cap, cur, rfl, a1, hk.1 _ _ _ a2 h1 h2 h3 h4, a3⟩
theorem RefT.kept {w w' : World} {v0 v1 v2 v3 : Value} {R : RT} (h : RefT w v0 v1 v2 v3 R) (hk : KeptO w w') : RefT w' v0 v1 v2 v3 R :=
  ⟨OwnR.kept h.ps hk (by decide) (by decide) (by decide) (by decide), OwnR.kept h.es hk (by decide) (by decide) (by decide) (by decide), OwnR.kept h.mid hk (by decide) (by decide) (by decide) (by decide), OwnR.kept h.low hk (by decide) (by decide) (by decide) (by decide)⟩
theorem RefT.slices {w : World} {v0 v1 v2 v3 : Value} {R : RT} (h : RefT w v0 v1 v2 v3 R) : ∃ (a0 a1 a2 a3 : Option Addr) (c0 c1 c2 c3 : Nat), v0 = .slice a0 R.ps.length c0 ∧ v1 = .slice a1 R.ps.length c1 ∧ v2 = .slice a2 R.mid.length c2 ∧ v3 = .slice a3 R.low.length c3 := by
  obtain ⟨a0, c0, h0⟩ := h.ps.rows.len
  obtain ⟨a1, c1, h1⟩ := h.es.rows.len
  obtain ⟨a2, c2, h2⟩ := h.mid.rows.len
  obtain ⟨a3, c3, h3⟩ := h.low.rows.len
  rw [List.length_map] at h0 h1 h2 h3
  exact ⟨a0, a1, a2, a3, c0, c1, c2, c3, h0, h1, h2, h3⟩
theorem has_spec {w : World} {v : Value} {l : List Nat} {n : Nat} (h : RowsAt w v 1 (l.map uC)) (hl : l.length < 1000000) {K : Value → World → Prop} (hK : K (.bool (decide (n ∈ l))) w) : callsK Try.prog 39 #[v, .int .u64 (n : Nat)] w K := by
  have hlen := h.lenR (ty := 3) Try.underlying34
  rw [List.length_map] at hlen
  apply F39_ok
  unfold F39
  refine loopT.intro (fun st w' => ∃ i : Nat, i ≤ l.length ∧ st = [.int .i64 (i : Nat)] ∧ n ∉ l.take i ∧ w' = w)
    (fun st _ => match st with
      | [.int _ z] => l.length - z.toNat
      | _ => 0) ⟨0, Nat.zero_le _, rfl, by simp, rfl⟩ ?_
  rintro st w' ⟨i, hi, rfl, hn, rfl⟩ _
  by_cases hil : i < l.length
  · obtain ⟨b, o, L, E, ff, hix, hb, hfit, hlt, hblk, hsub, hget⟩ := RowsAt.ixR (P := Try.prog) (t := 34) Try.underlying34 Try.sizeOf23 h (k := i) (r := uC l[i]) (by simp [hil])
    have hg0 := hget o 0 (by omega) (by omega)
    simp only [uC, List.getElem?_cons_zero] at hg0
    have hix' : ∀ w, (Instr.indexAt 34 v (.int .i64 (i : Nat))).run Try.prog w = .ok (.pointer (some ⟨b, o, none⟩)) w := fun w => hix w .i64 i rfl
    have e1 : decide (((i : Nat) : Int) < ((l.length : Nat) : Int)) = true := decide_eq_true (by omega)
    by_cases he : l[i] = n
    · have e2 : decide (((l[i] : Nat) : Int) = ((n : Nat) : Int)) = true := decide_eq_true (by omega)
      rw [decide_eq_true (by rw [← he]; exact List.getElem_mem hil)] at hK
      simp (disch := first | assumption | omega | (simp only [szR, entC_len, entC_all, tvC_len, tvC_all] <;> omega) | rfl | decide) only [gen0, gen1, gen2, rulesM, rulesT, rulesQ, litR, bolR, Nat.reduceAdd, Nat.reduceLeDiff, numR, memR, valR, heapR, updR, intR, decR, extR, slR, segR, thenR, pnR, Int.reduceToNat, Int.reduceAdd, Int.reduceSub, Int.reduceLT, Int.reduceLE, Nat.reduceSub, Nat.reduceMul, Nat.reduceEqDiff, hlen, e1, hix', hb, hg0, e2]
      exact hK
    · have e2 : decide (((l[i] : Nat) : Int) = ((n : Nat) : Int)) = false := decide_eq_false (by omega)
      simp (disch := first | assumption | omega | (simp only [szR, entC_len, entC_all, tvC_len, tvC_all] <;> omega) | rfl | decide) only [gen0, gen1, gen2, rulesM, rulesT, rulesQ, litR, bolR, Nat.reduceAdd, Nat.reduceLeDiff, numR, memR, valR, heapR, updR, intR, decR, extR, slR, segR, thenR, pnR, Int.reduceToNat, Int.reduceAdd, Int.reduceSub, Int.reduceLT, Int.reduceLE, Nat.reduceSub, Nat.reduceMul, Nat.reduceEqDiff, hlen, e1, hix', hb, hg0, e2]
      refine ⟨⟨i + 1, by omega, rfl, ?_, by simp⟩, by omega⟩
      rw [List.take_succ_eq_append_getElem hil, List.mem_append, List.mem_singleton]
      rintro (h1 | h1)
      · exact hn h1
      · exact he h1.symm
  · have e1 : decide (((i : Nat) : Int) < ((l.length : Nat) : Int)) = false := decide_eq_false (by omega)
    have : i = l.length := by omega
    subst this
    rw [List.take_length] at hn
    rw [decide_eq_false hn] at hK
    simp (disch := first | assumption | omega | (simp only [szR, entC_len, entC_all, tvC_len, tvC_all] <;> omega) | rfl | decide) only [gen0, gen1, gen2, rulesM, rulesT, rulesQ, litR, bolR, Nat.reduceAdd, Nat.reduceLeDiff, numR, memR, valR, heapR, updR, intR, decR, extR, slR, segR, thenR, pnR, Int.reduceToNat, Int.reduceAdd, Int.reduceSub, Int.reduceLT, Int.reduceLE, Nat.reduceSub, Nat.reduceMul, Nat.reduceEqDiff, hlen, e1]
    exact hK
theorem rframes_spec {w : World} {v0 v1 v2 v3 : Value} {R : RT} (h : RefT w v0 v1 v2 v3 R) (hm : R.mid.length < 1000000 ∧ R.low.length < 1000000) {K : Value → World → Prop} (hK : ∀ w', Ext [] w w' → K (.int .i64 (1 + R.mid.length + R.low.length : Nat)) w') : callsK Try.prog 11 #[.agg (tvC v0 v1 v2 v3).toArray] w K := by
  obtain ⟨a0, a1, a2, a3, c0, c1, c2, c3, rfl, rfl, rfl, rfl⟩ := h.slices
  have e1 : ((1 : Int) + ((R.mid.length : Nat) : Int) + ((R.low.length : Nat) : Int)) = ((1 + R.mid.length + R.low.length : Nat) : Int) := by omega
  apply F11_ok
  unfold F11
  simp (disch := first | assumption | omega | (simp only [szR, entC_len, entC_all, tvC_len, tvC_all] <;> omega) | rfl | decide) only [gen0, gen1, gen2, rulesM, rulesT, rulesQ, litR, bolR, Nat.reduceAdd, Nat.reduceLeDiff, numR, memR, valR, heapR, updR, intR, decR, extR, slR, segR, thenR, pnR, Int.reduceToNat, Int.reduceAdd, Int.reduceSub, Int.reduceLT, Int.reduceLE, Nat.reduceSub, Nat.reduceMul, Nat.reduceEqDiff, tvC_2, tvC_3, e1]
  exact hK _ (by (repeat first | assumption | exact Ext.refl | apply Ext.alloc | apply Ext.drew | (refine Ext.updN ?_ ?_; (focus first | omega | (simp only [szR] <;> omega))) | (refine Ext.updI ?_ ?_; (focus (simp; done)))))
/-- the entry of a page's number. -/
def findP (P : List (Nat × EntE)) (k : Nat) : Option EntE := (P.find? (fun p => p.1 == k)).map (·.2)
theorem rget_spec {w : World} {v0 v1 v2 v3 : Value} {R : RT} (h : RefT w v0 v1 v2 v3 R) (hn : R.ps.length < 1000000) {va : Nat} (hva : va < 18446744073709551616) {K : Value → World → Prop}
    (hK : ∀ w', Ext [] w w' → K (match (if va < 274877906944 then findP R.ps (va / 4096) else none) with | some e => .tuple #[.agg (entC e.f e.n).toArray, .bool true] | none => .tuple #[.agg (entC (fun _ => false) 0).toArray, .bool false]) w') :
    callsK Try.prog 16 #[.agg (tvC v0 v1 v2 v3).toArray, .int .u64 (va : Nat)] w K := by
  obtain ⟨a0, a1, a2, a3, c0, c1, c2, c3, rfl, rfl, rfl, rfl⟩ := h.slices
  have hlen := h.ps.rows.lenR (ty := 3) Try.underlying34
  rw [List.length_map] at hlen
  have hb0 : ∀ w, (Instr.build 46 #[]).run Try.prog w = .ok (.agg (entC (fun _ => false) 0).toArray) w := fun w => run_build w 46 _ _ (by kernel_rfl)
  apply F16_ok
  unfold F16
  simp (disch := first | assumption | omega | (simp only [szR, entC_len, entC_all, tvC_len, tvC_all] <;> omega) | rfl | decide) only [gen0, gen1, gen2, rulesM, rulesT, rulesQ, litR, bolR, Nat.reduceAdd, Nat.reduceLeDiff, numR, memR, valR, heapR, updR, intR, decR, extR, slR, segR, thenR, pnR, Int.reduceToNat, Int.reduceAdd, Int.reduceSub, Int.reduceLT, Int.reduceLE, Nat.reduceSub, Nat.reduceMul, Nat.reduceEqDiff]
  obtain ⟨W, hW⟩ : ∃ W, W = (w.alloc (.cells (tvC (.slice a0 R.ps.length c0) (.slice a1 R.ps.length c1) (.slice a2 R.mid.length c2) (.slice a3 R.low.length c3)).toArray 37)).alloc (.cells (entC (fun _ => false) 0).toArray 46) := ⟨_, rfl⟩
  have hx0 : Ext [] w (w.alloc (.cells (tvC (.slice a0 R.ps.length c0) (.slice a1 R.ps.length c1) (.slice a2 R.mid.length c2) (.slice a3 R.low.length c3)).toArray 37)) := Ext.alloc Ext.refl _ _
  have hx1 : Ext [] (w.alloc (.cells (tvC (.slice a0 R.ps.length c0) (.slice a1 R.ps.length c1) (.slice a2 R.mid.length c2) (.slice a3 R.low.length c3)).toArray 37)) W := by rw [hW]; exact Ext.alloc Ext.refl _ _
  have hxW := hx0.trans hx1 (by simp)
  have hB : W.heap[w.heap.size]? = some (.cells (tvC (.slice a0 R.ps.length c0) (.slice a1 R.ps.length c1) (.slice a2 R.mid.length c2) (.slice a3 R.low.length c3)).toArray 37 (0, 0)) := hx1.at (alloc_at rfl) (by simp)
  have hC : W.heap[w.heap.size + 1]? = some (.cells (entC (fun _ => false) 0).toArray 46 (0, 0)) := by rw [hW]; exact alloc_at (by simp only [szR])
  have hRW := h.ext hxW (by simp)
  have lB := lt_of_at hB
  have lC := lt_of_at hC
  have hcz : ([.bool false, .bool false, .bool false, .bool false, .bool false, .bool false, .bool false, .bool false, .bool false, .bool false, .bool false, .bool false, .int .u64 (0 : Int)] : List Value) = entC (fun _ => false) 0 := rfl
  rw [hcz, ← hW]
  have e2 : ((va : Nat) : Int) / 4096 = ((va / 4096 : Nat) : Int) := by omega
  have hfin : ∀ (f : Nat → Bool) (n : Nat), Ext [] w (World.upd W (w.heap.size + 1) (entC f n)) := fun f n => hxW.trans (Ext.updI (S := [w.heap.size + 1]) (by simp) Ext.refl) (fun b hb => .inr (by rw [List.mem_singleton.1 hb]; omega))
  refine loopT.intro (fun st w' => ∃ i : Nat, i ≤ R.ps.length ∧ st = [.int .i64 (i : Nat)] ∧ (∀ p ∈ R.ps.take i, ¬ (p.1 = va / 4096 ∧ va < 274877906944)) ∧ w' = W)
    (fun st _ => match st with
      | [.int _ z] => R.ps.length - z.toNat
      | _ => 0) ⟨0, Nat.zero_le _, rfl, by simp, rfl⟩ ?_
  rintro st w' ⟨i, hi, rfl, hn, rfl⟩ _
  by_cases hil : i < R.ps.length
  · obtain ⟨x, hx⟩ : ∃ x, x = R.ps[i] := ⟨_, rfl⟩
    have hxi : R.ps[i]? = some x := by rw [hx]; simp [hil]
    obtain ⟨b, o, L, E, ff, hix, hb, hfit, hlt, hblk, hsub, hget⟩ := RowsAt.ixR (P := Try.prog) (t := 34) Try.underlying34 Try.sizeOf23 hRW.ps.rows (k := i) (r := uC x.1) (by rw [List.getElem?_map, hxi]; rfl)
    have hg0 := hget o 0 (by omega) (by omega)
    simp only [uC, List.getElem?_cons_zero] at hg0
    have hix' : ∀ w, (Instr.indexAt 34 (.slice a0 R.ps.length c0) (.int .i64 (i : Nat))).run Try.prog w = .ok (.pointer (some ⟨b, o, none⟩)) w := fun w => hix w .i64 i rfl
    obtain ⟨b2, o2, L2, E2, ff2, hix2, hb2, hfit2, hlt2, hblk2, hsub2, hget2⟩ := RowsAt.ixR (P := Try.prog) (t := 35) Try.underlying35 Try.sizeOf46 hRW.es.rows (k := i) (r := entE x.2) (by rw [List.getElem?_map, hxi]; rfl)
    have hs2 := hsub2 o2 rfl
    have hix2' : ∀ w, (Instr.indexAt 35 (.slice a1 R.ps.length c1) (.int .i64 (i : Nat))).run Try.prog w = .ok (.pointer (some ⟨b2, o2, none⟩)) w := fun w => hix2 w .i64 i rfl
    have e1 : decide (((i : Nat) : Int) < ((R.ps.length : Nat) : Int)) = true := decide_eq_true (by omega)
    have hsplit : R.ps = R.ps.take i ++ x :: R.ps.drop (i + 1) := by
      rw [hx, ← List.drop_eq_getElem_cons hil, List.take_append_drop]
    by_cases he : x.1 = va / 4096 ∧ va < 274877906944
    · have e3 : decide (((x.1 : Nat) : Int) = ((va / 4096 : Nat) : Int)) = true := decide_eq_true (by omega)
      have e4 : decide (((va : Nat) : Int) < 274877906944) = true := decide_eq_true (by omega)
      have hfd : findP R.ps (va / 4096) = some x.2 := by
        unfold findP
        have h1 : R.ps.find? (fun p => p.1 == va / 4096) = some x := by
          rw [hsplit, List.find?_append, List.find?_eq_none.2 (fun p hp hq => hn p hp ⟨by simpa using hq, he.2⟩)]
          simp [he.1]
        rw [h1]
        rfl
      rw [if_pos he.2, hfd] at hK
      simp (disch := first | assumption | omega | (simp only [szR, entC_len, entC_all, tvC_len, tvC_all] <;> omega) | rfl | decide) only [gen0, gen1, gen2, rulesM, rulesT, rulesQ, litR, bolR, Nat.reduceAdd, Nat.reduceLeDiff, numR, memR, valR, heapR, updR, intR, decR, extR, slR, segR, thenR, pnR, Int.reduceToNat, Int.reduceAdd, Int.reduceSub, Int.reduceLT, Int.reduceLE, Nat.reduceSub, Nat.reduceMul, Nat.reduceEqDiff, joinBR, hB, hC, hlen, e1, hix', hb, hg0, e2, e3, e4, tvC_0, tvC_1, hix2', hb2, hs2, entE, ent_drop, entC_sub]
      exact hK _ (hfin _ _)
    · have hcond : (decide (((x.1 : Nat) : Int) = ((va / 4096 : Nat) : Int)) = false) ∨ (decide (((x.1 : Nat) : Int) = ((va / 4096 : Nat) : Int)) = true ∧ decide (((va : Nat) : Int) < 274877906944) = false) := by
        by_cases h1 : x.1 = va / 4096
        · exact .inr ⟨decide_eq_true (by omega), decide_eq_false (by omega)⟩
        · exact .inl (decide_eq_false (by omega))
      have hnx : ∀ p ∈ R.ps.take (i + 1), ¬ (p.1 = va / 4096 ∧ va < 274877906944) := by
        intro p hp
        rw [List.take_succ_eq_append_getElem hil, List.mem_append, List.mem_singleton] at hp
        rcases hp with hp | hp
        · exact hn p hp
        · rw [hp, ← hx]
          exact he
      rcases hcond with e3 | ⟨e3, e4⟩
      · simp (disch := first | assumption | omega | (simp only [szR, entC_len, entC_all, tvC_len, tvC_all] <;> omega) | rfl | decide) only [gen0, gen1, gen2, rulesM, rulesT, rulesQ, litR, bolR, Nat.reduceAdd, Nat.reduceLeDiff, numR, memR, valR, heapR, updR, intR, decR, extR, slR, segR, thenR, pnR, Int.reduceToNat, Int.reduceAdd, Int.reduceSub, Int.reduceLT, Int.reduceLE, Nat.reduceSub, Nat.reduceMul, Nat.reduceEqDiff, joinBR, hB, hC, hlen, e1, hix', hb, hg0, e2, e3, tvC_0]
        exact ⟨⟨i + 1, by omega, rfl, hnx, by simp⟩, by omega⟩
      · simp (disch := first | assumption | omega | (simp only [szR, entC_len, entC_all, tvC_len, tvC_all] <;> omega) | rfl | decide) only [gen0, gen1, gen2, rulesM, rulesT, rulesQ, litR, bolR, Nat.reduceAdd, Nat.reduceLeDiff, numR, memR, valR, heapR, updR, intR, decR, extR, slR, segR, thenR, pnR, Int.reduceToNat, Int.reduceAdd, Int.reduceSub, Int.reduceLT, Int.reduceLE, Nat.reduceSub, Nat.reduceMul, Nat.reduceEqDiff, joinBR, hB, hC, hlen, e1, hix', hb, hg0, e2, e3, e4, tvC_0]
        exact ⟨⟨i + 1, by omega, rfl, hnx, by simp⟩, by omega⟩
  · have e1 : decide (((i : Nat) : Int) < ((R.ps.length : Nat) : Int)) = false := decide_eq_false (by omega)
    have hi2 : i = R.ps.length := by omega
    subst hi2
    rw [List.take_length] at hn
    have hfd : (if va < 274877906944 then findP R.ps (va / 4096) else none) = none := by
      by_cases h1 : va < 274877906944
      · rw [if_pos h1]
        unfold findP
        rw [List.find?_eq_none.2 (fun p hp hq => hn p hp ⟨by simpa using hq, h1⟩)]
        rfl
      · rw [if_neg h1]
    rw [hfd] at hK
    simp (disch := first | assumption | omega | (simp only [szR, entC_len, entC_all, tvC_len, tvC_all] <;> omega) | rfl | decide) only [gen0, gen1, gen2, rulesM, rulesT, rulesQ, litR, bolR, Nat.reduceAdd, Nat.reduceLeDiff, numR, memR, valR, heapR, updR, intR, decR, extR, slR, segR, thenR, pnR, Int.reduceToNat, Int.reduceAdd, Int.reduceSub, Int.reduceLT, Int.reduceLE, Nat.reduceSub, Nat.reduceMul, Nat.reduceEqDiff, joinBR, hB, hC, hlen, e1, tvC_0, hb0, ent_drop, entC_sub]
    exact hK _ (hfin _ _)
end Go.Proofs.Ytfpcflmgipklcaa
