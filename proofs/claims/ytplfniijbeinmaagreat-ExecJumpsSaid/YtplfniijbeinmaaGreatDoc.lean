/- The document's memory, where words of four bytes are laid; conditions: those of each theorem. -/
import Derived.Test.YtplfniijbeinmaaGreatStep2
namespace Go.Proofs.YtplfniijbeinmaaGreat
open Go.Fx
set_option maxRecDepth 100000
set_option linter.unusedSimpArgs false
set_option linter.unusedVariables false
def aC (p : Nat × Int) : List Value := [.int .u64 p.1]
def bC (p : Nat × Int) : List Value := [.int .u8 p.2]
theorem aC_all (P : List (Nat × Int)) : ∀ r ∈ P.map aC, r.all (fun v => v.oneCell') = true := by
  intro r hr
  obtain ⟨l, -, rfl⟩ := List.mem_map.1 hr
  rfl
theorem bC_all (P : List (Nat × Int)) : ∀ r ∈ P.map bC, r.all (fun v => v.oneCell') = true := by
  intro r hr
  obtain ⟨l, -, rfl⟩ := List.mem_map.1 hr
  rfl
/-- what was laid last at an address. -/
def lk (P : List (Nat × Int)) (a : Nat) : Int := P.foldl (fun x p => if p.1 = a then p.2 else x) 0
theorem lk_add (P : List (Nat × Int)) (a x : Nat) (b : Int) : lk (P ++ [(a, b)]) x = wset (lk P) a b x := by
  unfold lk wset
  rw [List.foldl_append]
  simp only [List.foldl_cons, List.foldl_nil]
  by_cases h : a = x
  · rw [if_pos h, if_pos h.symm]
  · rw [if_neg h, if_neg (Ne.symm h)]
theorem lk_take {P : List (Nat × Int)} {k a : Nat} (h : k < P.length) : lk (P.take (k + 1)) a = if P[k].1 = a then P[k].2 else lk (P.take k) a := by
  unfold lk
  rw [List.take_succ_eq_append_getElem h, List.foldl_append]
  rfl
theorem app25 {base : Nat} {v x : Value} {rows rows2 : List (List Value)} {w : World} {K : Value → World → Prop} (hown : OwnR w base 22 1 v rows) (hx : RowsAt w x 1 rows2) (h1 : ∀ r ∈ rows2, r.all (fun v => v.oneCell') = true)
    (hl : rows.length + rows2.length ≤ 1000000) (hbase : base ≤ w.heap.size) (hK : ∀ v' w', OwnR w' base 22 1 v' (rows ++ rows2) → App base v w w' → K v' w') : resV K ((Builtin.append_ #[32, 32] 32 #[v, x]).run Tryz.prog w) :=
  kV_appR Tryz.underlying32 (by kernel_rfl) (by omega) (bytes := 8) hown hx h1 (by simp only [maxLen]; omega) (by omega) hbase hK
theorem app26 {base : Nat} {v x : Value} {rows rows2 : List (List Value)} {w : World} {K : Value → World → Prop} (hown : OwnR w base 5 1 v rows) (hx : RowsAt w x 1 rows2) (h1 : ∀ r ∈ rows2, r.all (fun v => v.oneCell') = true)
    (hl : rows.length + rows2.length ≤ 1000000) (hbase : base ≤ w.heap.size) (hK : ∀ v' w', OwnR w' base 5 1 v' (rows ++ rows2) → App base v w w' → K v' w') : resV K ((Builtin.append_ #[33, 33] 33 #[v, x]).run Tryz.prog w) :=
  kV_appR Tryz.underlying33 (by kernel_rfl) (by omega) (bytes := 1) hown hx h1 (by simp only [maxLen]; omega) (by omega) hbase hK
def rmC (n : Nat) (va vb : Value) : List Value := [.int .i64 n, va, vb, .slice none 0 0]
/-- the document's memory as a value. -/
structure RMem (w : World) (base : Nat) (L : List Value) (n : Nat) (m : Nat → Int) (c : Nat) (P : List (Nat × Int)) (va vb : Value) : Prop where
  val : L = rmC n va vb
  rowa : RowsAt w va 1 (P.map aC)
  rowb : RowsAt w vb 1 (P.map bC)
  lowa : ∀ b, blockOf va = some b → base ≤ b
  lowb : ∀ b, blockOf vb = some b → base ≤ b
  lk : ∀ a, lk P a = m a
  len : P.length ≤ c
theorem RMem.ext {w w' : World} {base n c : Nat} {L : List Value} {m : Nat → Int} {P : List (Nat × Int)} {va vb : Value} {S : List Nat} (h : RMem w base L n m c P va vb) (hx : Ext S w w') (hs : ∀ k ∈ S, k < base) : RMem w' base L n m c P va vb :=
  ⟨h.val, h.rowa.at hx fun b hb hc => absurd (hs b hc) (Nat.not_lt.2 (h.lowa b hb)), h.rowb.at hx fun b hb hc => absurd (hs b hc) (Nat.not_lt.2 (h.lowb b hb)), h.lowa, h.lowb, h.lk, h.len⟩
theorem RMem.ext' {w w' : World} {base n c : Nat} {L : List Value} {m : Nat → Int} {P : List (Nat × Int)} {va vb : Value} {S : List Nat} (h : RMem w base L n m c P va vb) (hx : Ext S w w') (hs : P ≠ [] → ∀ k, blockOf va = some k ∨ blockOf vb = some k → k ∉ S) : RMem w' base L n m c P va vb :=
  ⟨h.val, h.rowa.at' hx fun h0 b hb => hs (by rintro rfl; exact h0 rfl) b (.inl hb), h.rowb.at' hx fun h0 b hb => hs (by rintro rfl; exact h0 rfl) b (.inr hb), h.lowa, h.lowb, h.lk, h.len⟩
theorem RMem.form {w : World} {base n c : Nat} {L : List Value} {m : Nat → Int} {P : List (Nat × Int)} {va vb : Value} (h : RMem w base L n m c P va vb) : ∃ a1 c1 a2 c2, va = .slice a1 P.length c1 ∧ vb = .slice a2 P.length c2 := by
  obtain ⟨a1, c1, e1⟩ := h.rowa.len
  obtain ⟨a2, c2, e2⟩ := h.rowb.len
  rw [List.length_map] at e1 e2
  exact ⟨a1, c1, a2, c2, e1, e2⟩
theorem rSize_spec {w : World} {n : Nat} {va vb : Value} (hn : n ≤ 1000) {K : Value → World → Prop} (hK : ∀ w', Ext [] w w' → K (.int .u64 (n * 4096 : Nat)) w') : callsK Tryz.prog 62 #[.agg (rmC n va vb).toArray] w K := by
  have e : (n : Int) * 4096 = ((n * 4096 : Nat) : Int) := by omega
  apply F62_ok
  unfold F62
  simp only [rmC]
  simp (disch := first | assumption | omega | (simp only [szR] <;> omega) | rfl | decide) only [gen0, gen1, gen2, rulesC, rulesX, rulesM, litR, bolR, Nat.reduceAdd, Nat.reduceLeDiff, numR, memR, valR, heapR, updR, intR, decR, extR, slR, segR, thenR, pnR, Int.reduceToNat, Int.reduceAdd, Int.reduceSub, Int.reduceLT, Int.reduceLE, Nat.reduceSub, Nat.reduceMul, Nat.reduceEqDiff, e]
  exact hK _ (by (repeat first | assumption | exact Ext.refl | apply Ext.alloc | apply Ext.drew | (refine Ext.updN ?_ ?_; (focus first | omega | (simp only [szR] <;> omega))) | (refine Ext.updI ?_ ?_; (focus (simp; done)))))
theorem rMay_spec {w : World} {n a : Nat} {va vb : Value} (hn : n ≤ 1000) (h8 : a % 4 = 0) (ha : a < n * 4096) {K : Value → World → Prop} (hK : ∀ w', Ext [] w w' → K (.bool true) w') : callsK Tryz.prog 58 #[.agg (rmC n va vb).toArray, .int .u64 a, .int .i64 4] w K := by
  apply F58_ok
  unfold F58
  have hs : sub (rmC n va vb) 0 4 = rmC n va vb := by simp [rmC, sub]
  have hl : (rmC n va vb).length = 4 := by simp [rmC]
  have e0 : (a : Int) % 4 = 0 := by omega
  simp (disch := first | assumption | omega | (simp only [szR] <;> omega) | rfl | decide) only [gen0, gen1, gen2, rulesC, rulesX, rulesM, litR, bolR, Nat.reduceAdd, Nat.reduceLeDiff, numR, memR, valR, heapR, updR, intR, decR, extR, slR, segR, thenR, pnR, Int.reduceToNat, Int.reduceAdd, Int.reduceSub, Int.reduceLT, Int.reduceLE, Nat.reduceSub, Nat.reduceMul, Nat.reduceEqDiff, joinR, hs, hl, e0]
  refine rSize_spec hn fun w1 hx1 => ?_
  simp (disch := first | assumption | omega | (simp only [szR] <;> omega) | rfl | decide) only [gen0, gen1, gen2, rulesC, rulesX, rulesM, litR, bolR, Nat.reduceAdd, Nat.reduceLeDiff, numR, memR, valR, heapR, updR, intR, decR, extR, slR, segR, thenR, pnR, Int.reduceToNat, Int.reduceAdd, Int.reduceSub, Int.reduceLT, Int.reduceLE, Nat.reduceSub, Nat.reduceMul, Nat.reduceEqDiff, joinR]
  exact hK _ (Ext.trans (S := []) (by (repeat first | assumption | exact Ext.refl | apply Ext.alloc | apply Ext.drew | (refine Ext.updN ?_ ?_; (focus first | omega | (simp only [szR] <;> omega))) | (refine Ext.updI ?_ ?_; (focus (simp; done))))) hx1 (by simp))
theorem rNew_spec {w : World} {n : Nat} (hn : 1 ≤ n ∧ n ≤ 64) {K : Value → World → Prop} (hK : ∀ w', (∀ base, RMem w' base (rmC n (.slice none 0 0) (.slice none 0 0)) n (fun _ => 0) 0 [] (.slice none 0 0) (.slice none 0 0)) → Ext [] w w' → K (.tuple #[.agg (rmC n (.slice none 0 0) (.slice none 0 0)).toArray, .int .i64 0]) w') :
    callsK Tryz.prog 22 #[.int .i64 n] w K := by
  apply F22_ok
  unfold F22
  simp (disch := first | assumption | omega | (simp only [szR] <;> omega) | rfl | decide) only [gen0, gen1, gen2, rulesC, rulesX, rulesM, litR, bolR, Nat.reduceAdd, Nat.reduceLeDiff, numR, memR, valR, heapR, updR, intR, decR, extR, slR, segR, thenR, pnR, Int.reduceToNat, Int.reduceAdd, Int.reduceSub, Int.reduceLT, Int.reduceLE, Nat.reduceSub, Nat.reduceMul, Nat.reduceEqDiff, joinBR]
  refine hK _ (fun base => ⟨rfl, OwnR.nil.rows (base := 0) (e := 5), OwnR.nil.rows (base := 0) (e := 5), by simp [blockOf], by simp [blockOf], fun _ => rfl, by simp⟩) (by (repeat first | assumption | exact Ext.refl | apply Ext.alloc | apply Ext.drew | (refine Ext.updN ?_ ?_; (focus first | omega | (simp only [szR] <;> omega))) | (refine Ext.updI ?_ ?_; (focus (simp; done)))))
theorem rUntag_spec {w : World} {n n1 c1 n2 c2 : Nat} {a1 a2 : Option Addr} {x : Int} {K : Value → World → Prop} (hK : ∀ w', Ext [] w w' → K (.agg (rmC n (.slice a1 n1 c1) (.slice a2 n2 c2)).toArray) w') :
    callsK Tryz.prog 92 #[.agg (rmC n (.slice a1 n1 c1) (.slice a2 n2 c2)).toArray, .int .u64 x] w K := by
  apply F92_ok
  unfold F92
  simp only [rmC]
  simp (disch := first | assumption | omega | (simp only [szR] <;> omega) | rfl | decide) only [gen0, gen1, gen2, rulesC, rulesX, rulesM, litR, bolR, Nat.reduceAdd, Nat.reduceLeDiff, numR, memR, valR, heapR, updR, intR, decR, extR, slR, segR, thenR, pnR, Int.reduceToNat, Int.reduceAdd, Int.reduceSub, Int.reduceLT, Int.reduceLE, Nat.reduceSub, Nat.reduceMul, Nat.reduceEqDiff]
  refine loopT.intro (fun st w' => st = [.slice none 0 0, .int .i64 0] ∧ w'.heap[w.heap.size]? = some (.cells (rmC n (.slice a1 n1 c1) (.slice a2 n2 c2)).toArray 35 (0, 0)) ∧ w'.heap[w.heap.size + 1]? = some (.cells [.int .i64 0, .slice none 0 0, .slice none 0 0, .slice none 0 0].toArray 35 (0, 0)) ∧ Ext [] w w') (fun _ _ => 0) ⟨rfl, (by first | with_reducible rfl | assumption | (simp (disch := first | assumption | omega | (simp only [szR] <;> omega) | rfl | decide) only [gen0, gen1, gen2, rulesC, rulesX, rulesM, litR, bolR, Nat.reduceAdd, Nat.reduceLeDiff, numR, memR, valR, heapR, updR, intR, decR, extR, slR, segR, thenR, pnR, Int.reduceToNat, Int.reduceAdd, Int.reduceSub, Int.reduceLT, Int.reduceLE, Nat.reduceSub, Nat.reduceMul, Nat.reduceEqDiff] <;> rfl)), (by first | with_reducible rfl | assumption | (simp (disch := first | assumption | omega | (simp only [szR] <;> omega) | rfl | decide) only [gen0, gen1, gen2, rulesC, rulesX, rulesM, litR, bolR, Nat.reduceAdd, Nat.reduceLeDiff, numR, memR, valR, heapR, updR, intR, decR, extR, slR, segR, thenR, pnR, Int.reduceToNat, Int.reduceAdd, Int.reduceSub, Int.reduceLT, Int.reduceLE, Nat.reduceSub, Nat.reduceMul, Nat.reduceEqDiff] <;> rfl)), by (repeat first | assumption | exact Ext.refl | apply Ext.alloc | apply Ext.drew | (refine Ext.updN ?_ ?_; (focus first | omega | (simp only [szR] <;> omega))) | (refine Ext.updI ?_ ?_; (focus (simp; done))))⟩ ?_
  rintro st w' ⟨rfl, h1, h2, hx⟩ _
  have l1 := lt_of_at h1
  have l2 := lt_of_at h2
  simp only [rmC] at h1
  simp (disch := first | assumption | omega | (simp only [szR] <;> omega) | rfl | decide) only [gen0, gen1, gen2, rulesC, rulesX, rulesM, litR, bolR, Nat.reduceAdd, Nat.reduceLeDiff, numR, memR, valR, heapR, updR, intR, decR, extR, slR, segR, thenR, pnR, Int.reduceToNat, Int.reduceAdd, Int.reduceSub, Int.reduceLT, Int.reduceLE, Nat.reduceSub, Nat.reduceMul, Nat.reduceEqDiff, h1, h2]
  exact hK _ (by (repeat first | assumption | exact Ext.refl | apply Ext.alloc | apply Ext.drew | (refine Ext.updN ?_ ?_; (focus first | omega | (simp only [szR] <;> omega))) | (refine Ext.updI ?_ ?_; (focus (simp; done)))))
set_option maxHeartbeats 1000000 in
theorem rLay_spec {w : World} {base n c a : Nat} {L : List Value} {b : Int} {m : Nat → Int} {P : List (Nat × Int)} {va vb : Value} (h : RMem w base L n m c P va vb) (hb : base ≤ w.heap.size) (hc : c ≤ 100000) (ha : a < 18446744073709551616) {K : Value → World → Prop}
    (hK : ∀ L' P' va' vb' w', RMem w' base L' n (wset m a b) (c + 1) P' va' vb' → (∀ k, blockOf va' = some k ∨ blockOf vb' = some k → w.heap.size ≤ k) → Ext [] w w' → K (.agg L'.toArray) w') : callsK Tryz.prog 59 #[.agg L.toArray, .int .u64 a, .int .u8 b] w K := by
  obtain ⟨a1, c1, a2, c2, rfl, rfl⟩ := h.form
  obtain ⟨rfl, hA, hB, -, -, hlk, hlen⟩ := h
  apply F59_ok
  unfold F59
  simp only [rmC]
  simp (disch := first | assumption | omega | (simp only [szR] <;> omega) | rfl | decide) only [gen0, gen1, gen2, rulesC, rulesX, rulesM, litR, bolR, Nat.reduceAdd, Nat.reduceLeDiff, numR, memR, valR, heapR, updR, intR, decR, extR, slR, segR, thenR, pnR, Int.reduceToNat, Int.reduceAdd, Int.reduceSub, Int.reduceLT, Int.reduceLE, Nat.reduceSub, Nat.reduceMul, Nat.reduceEqDiff]
  refine app25 (rows := []) (rows2 := P.map aC) (base := w.heap.size + 1 + 1) (OwnR.empty (by first | with_reducible rfl | assumption | (simp (disch := first | assumption | omega | (simp only [szR] <;> omega) | rfl | decide) only [gen0, gen1, gen2, rulesC, rulesX, rulesM, litR, bolR, Nat.reduceAdd, Nat.reduceLeDiff, numR, memR, valR, heapR, updR, intR, decR, extR, slR, segR, thenR, pnR, Int.reduceToNat, Int.reduceAdd, Int.reduceSub, Int.reduceLT, Int.reduceLE, Nat.reduceSub, Nat.reduceMul, Nat.reduceEqDiff] <;> rfl)) (Nat.le_refl _)) (hA.ext (S := []) (by (repeat first | assumption | exact Ext.refl | apply Ext.alloc | apply Ext.drew | (refine Ext.updN ?_ ?_; (focus first | omega | (simp only [szR] <;> omega))) | (refine Ext.updI ?_ ?_; (focus (simp; done))))) (by simp)) (aC_all P) (by simp; omega) (by simp only [szR]; omega) fun v10 w1 ho1 hp1 => ?_
  have hx1 := hp1.ext _ [] (by simp only [szR]; omega) (Ext.alloc (S := []) Ext.refl _ _)
  have hs1 := hx1.size
  simp only [szR] at hs1
  have hk1 := kept0 hx1
  simp (disch := first | assumption | omega | (simp only [szR] <;> omega) | rfl | decide) only [gen0, gen1, gen2, rulesC, rulesX, rulesM, litR, bolR, Nat.reduceAdd, Nat.reduceLeDiff, numR, memR, valR, heapR, updR, intR, decR, extR, slR, segR, thenR, pnR, Int.reduceToNat, Int.reduceAdd, Int.reduceSub, Int.reduceLT, Int.reduceLE, Nat.reduceSub, Nat.reduceMul, Nat.reduceEqDiff, hk1]
  refine app25 (rows2 := [aC (a, b)]) (base := w.heap.size + 1 + 1) (ho1.ext (Ext.alloc (S := []) Ext.refl _ _) (by simp)) (RowsAt.one (l := aC (a, b)) (by first | with_reducible rfl | assumption | (simp (disch := first | assumption | omega | (simp only [szR] <;> omega) | rfl | decide) only [gen0, gen1, gen2, rulesC, rulesX, rulesM, litR, bolR, Nat.reduceAdd, Nat.reduceLeDiff, numR, memR, valR, heapR, updR, intR, decR, extR, slR, segR, thenR, pnR, Int.reduceToNat, Int.reduceAdd, Int.reduceSub, Int.reduceLT, Int.reduceLE, Nat.reduceSub, Nat.reduceMul, Nat.reduceEqDiff] <;> rfl)) rfl) (aC_all [(a, b)]) (by simp; omega) (by simp only [szR]; omega) fun v13 w2 ho2 hp2 => ?_
  have hx2 := hp2.ext _ [] (by simp only [szR]; omega) (hx1.alloc _ _)
  have hs2 := hx2.size
  simp only [szR] at hs2
  have hk2 := kept0 hx2
  obtain ⟨a13, c13, rfl⟩ := ho2.rows.len
  have hxw2 : Ext [] w w2 := Ext.trans (S := []) (by (repeat first | assumption | exact Ext.refl | apply Ext.alloc | apply Ext.drew | (refine Ext.updN ?_ ?_; (focus first | omega | (simp only [szR] <;> omega))) | (refine Ext.updI ?_ ?_; (focus (simp; done))))) hx2 (by simp)
  simp (disch := first | assumption | omega | (simp only [szR] <;> omega) | rfl | decide) only [gen0, gen1, gen2, rulesC, rulesX, rulesM, litR, bolR, Nat.reduceAdd, Nat.reduceLeDiff, numR, memR, valR, heapR, updR, intR, decR, extR, slR, segR, thenR, pnR, Int.reduceToNat, Int.reduceAdd, Int.reduceSub, Int.reduceLT, Int.reduceLE, Nat.reduceSub, Nat.reduceMul, Nat.reduceEqDiff, hk2]
  refine app26 (rows := []) (rows2 := P.map bC) (base := w2.heap.size) (OwnR.empty (by first | with_reducible rfl | assumption | (simp (disch := first | assumption | omega | (simp only [szR] <;> omega) | rfl | decide) only [gen0, gen1, gen2, rulesC, rulesX, rulesM, litR, bolR, Nat.reduceAdd, Nat.reduceLeDiff, numR, memR, valR, heapR, updR, intR, decR, extR, slR, segR, thenR, pnR, Int.reduceToNat, Int.reduceAdd, Int.reduceSub, Int.reduceLT, Int.reduceLE, Nat.reduceSub, Nat.reduceMul, Nat.reduceEqDiff] <;> rfl)) (Nat.le_refl _)) (hB.ext (S := []) (by (repeat first | assumption | exact Ext.refl | apply Ext.alloc | apply Ext.drew | (refine Ext.updN ?_ ?_; (focus first | omega | (simp only [szR] <;> omega))) | (refine Ext.updI ?_ ?_; (focus (simp; done))))) (by simp)) (bC_all P) (by simp; omega) (by simp only [szR]; omega) fun v18 w3 ho3 hp3 => ?_
  have hx3 := hp3.ext _ [] (by simp only [szR]; omega) (Ext.alloc (S := []) Ext.refl _ _)
  have hs3 := hx3.size
  simp only [szR] at hs3
  have hk3 := kept0 hx3
  simp (disch := first | assumption | omega | (simp only [szR] <;> omega) | rfl | decide) only [gen0, gen1, gen2, rulesC, rulesX, rulesM, litR, bolR, Nat.reduceAdd, Nat.reduceLeDiff, numR, memR, valR, heapR, updR, intR, decR, extR, slR, segR, thenR, pnR, Int.reduceToNat, Int.reduceAdd, Int.reduceSub, Int.reduceLT, Int.reduceLE, Nat.reduceSub, Nat.reduceMul, Nat.reduceEqDiff, hk3, hk2]
  refine app26 (rows2 := [bC (a, b)]) (base := w2.heap.size) (ho3.ext (Ext.alloc (S := []) Ext.refl _ _) (by simp)) (RowsAt.one (l := bC (a, b)) (by first | with_reducible rfl | assumption | (simp (disch := first | assumption | omega | (simp only [szR] <;> omega) | rfl | decide) only [gen0, gen1, gen2, rulesC, rulesX, rulesM, litR, bolR, Nat.reduceAdd, Nat.reduceLeDiff, numR, memR, valR, heapR, updR, intR, decR, extR, slR, segR, thenR, pnR, Int.reduceToNat, Int.reduceAdd, Int.reduceSub, Int.reduceLT, Int.reduceLE, Nat.reduceSub, Nat.reduceMul, Nat.reduceEqDiff] <;> rfl)) rfl) (bC_all [(a, b)]) (by simp; omega) (by simp only [szR]; omega) fun v21 w4 ho4 hp4 => ?_
  have hx4 := hp4.ext _ [] (by simp only [szR]; omega) (hx3.alloc _ _)
  have hs4 := hx4.size
  simp only [szR] at hs4
  have hk4 := kept0 hx4
  obtain ⟨a21, c21, rfl⟩ := ho4.rows.len
  have hxw4 : Ext [] w w4 := Ext.trans (S := []) (by (repeat first | assumption | exact Ext.refl | apply Ext.alloc | apply Ext.drew | (refine Ext.updN ?_ ?_; (focus first | omega | (simp only [szR] <;> omega))) | (refine Ext.updI ?_ ?_; (focus (simp; done))))) hx4 (by simp)
  have hu := fun (w : World) (K : Value → World → Prop) => rUntag_spec (w := w) (n := n) (n1 := ([] ++ P.map aC ++ [aC (a, b)]).length) (c1 := c13) (n2 := ([] ++ P.map bC ++ [bC (a, b)]).length) (c2 := c21) (a1 := a13) (a2 := a21) (x := ((a / 16 * 16 : Nat) : Int)) (K := K)
  have e16 : (a : Int) / 16 * 16 = ((a / 16 * 16 : Nat) : Int) := by omega
  simp only [rmC] at hu
  simp (disch := first | assumption | omega | (simp only [szR] <;> omega) | rfl | decide) only [gen0, gen1, gen2, rulesC, rulesX, rulesM, litR, bolR, Nat.reduceAdd, Nat.reduceLeDiff, numR, memR, valR, heapR, updR, intR, decR, extR, slR, segR, thenR, pnR, Int.reduceToNat, Int.reduceAdd, Int.reduceSub, Int.reduceLT, Int.reduceLE, Nat.reduceSub, Nat.reduceMul, Nat.reduceEqDiff, hk4, hk3, hk2, e16]
  refine hu _ _ fun w5 hx5 => ?_
  have hs5 := hx5.size
  simp only [szR] at hs5
  have hk5 := kept0 hx5
  simp (disch := first | assumption | omega | (simp only [szR] <;> omega) | rfl | decide) only [gen0, gen1, gen2, rulesC, rulesX, rulesM, litR, bolR, Nat.reduceAdd, Nat.reduceLeDiff, numR, memR, valR, heapR, updR, intR, decR, extR, slR, segR, thenR, pnR, Int.reduceToNat, Int.reduceAdd, Int.reduceSub, Int.reduceLT, Int.reduceLE, Nat.reduceSub, Nat.reduceMul, Nat.reduceEqDiff, hk5, hk4, hk3, hk2, hk1]
  have hxw5 : Ext [] w w5 := Ext.trans (S := []) (by (repeat first | assumption | exact Ext.refl | apply Ext.alloc | apply Ext.drew | (refine Ext.updN ?_ ?_; (focus first | omega | (simp only [szR] <;> omega))) | (refine Ext.updI ?_ ?_; (focus (simp; done))))) hx5 (by simp)
  have hra := ho2.rows
  have hrb := ho4.rows
  simp only [List.nil_append] at hra hrb
  refine hK _ (P ++ [(a, b)]) _ _ _ ⟨rfl, ?_, ?_, ?_, ?_, fun x => ?_, ?_⟩ (fun k hk => hk.elim (fun h => by have := ho2.block k h; omega) (fun h => by have := ho4.block k h; omega)) (by (repeat first | assumption | exact Ext.refl | apply Ext.alloc | apply Ext.drew | (refine Ext.updN ?_ ?_; (focus first | omega | (simp only [szR] <;> omega))) | (refine Ext.updI ?_ ?_; (focus (simp; done)))))
  · rw [List.map_append]
    have hy4 : Ext [w.heap.size, w.heap.size + 1] w2 w4 := Ext.trans (by (repeat first | assumption | exact Ext.refl | apply Ext.alloc | apply Ext.drew | (refine Ext.updN ?_ ?_; (focus first | omega | (simp only [szR] <;> omega))) | (refine Ext.updI ?_ ?_; (focus (simp; done))))) hx4 (by simp)
    have hy5 : Ext [w.heap.size, w.heap.size + 1] w2 w5 := Ext.trans (by (repeat first | assumption | exact Ext.refl | apply Ext.alloc | apply Ext.drew | (refine Ext.updN ?_ ?_; (focus first | omega | (simp only [szR] <;> omega))) | (refine Ext.updI ?_ ?_; (focus (simp; done))))) hx5 (by simp)
    refine hra.at (S := [w.heap.size, w.heap.size + 1]) (by (repeat first | assumption | exact Ext.refl | apply Ext.alloc | apply Ext.drew | (refine Ext.updN ?_ ?_; (focus first | omega | (simp only [szR] <;> omega))) | (refine Ext.updI ?_ ?_; (focus (simp; done))))) fun k hk hm => ?_
    have := ho2.block k hk
    simp at hm
    omega
  · rw [List.map_append]
    have hy5 : Ext [w.heap.size, w.heap.size + 1] w4 w5 := Ext.trans (by (repeat first | assumption | exact Ext.refl | apply Ext.alloc | apply Ext.drew | (refine Ext.updN ?_ ?_; (focus first | omega | (simp only [szR] <;> omega))) | (refine Ext.updI ?_ ?_; (focus (simp; done))))) hx5 (by simp)
    refine hrb.at (S := [w.heap.size, w.heap.size + 1]) (by (repeat first | assumption | exact Ext.refl | apply Ext.alloc | apply Ext.drew | (refine Ext.updN ?_ ?_; (focus first | omega | (simp only [szR] <;> omega))) | (refine Ext.updI ?_ ?_; (focus (simp; done))))) fun k hk hm => ?_
    have := ho4.block k hk
    simp at hm
    omega
  · intro k hk
    have := ho2.block k hk
    omega
  · intro k hk
    have := ho4.block k hk
    omega
  · rw [lk_add]
    unfold wset
    rw [hlk]
  · simp
    omega
theorem rmC_at (n : Nat) (va vb : Value) : (rmC n va vb)[0]? = some (.int .i64 n) ∧ (rmC n va vb)[1]? = some va ∧ (rmC n va vb)[2]? = some vb := ⟨rfl, rfl, rfl⟩
theorem RMem.cells {w : World} {base n c : Nat} {L : List Value} {m : Nat → Int} {P : List (Nat × Int)} {va vb : Value} (h : RMem w base L n m c P va vb) : L.length = 4 ∧ L.all (fun v => v.oneCell') = true ∧ sub L 0 4 = L := by
  obtain ⟨a1, c1, a2, c2, rfl, rfl⟩ := h.form
  rw [h.val]
  exact ⟨rfl, rfl, by simp [rmC, sub]⟩
theorem splice_all {l vs : List Value} (h : l.length = vs.length) : splice l 0 vs = vs := by simp [splice, ← h]
theorem drop_all {l vs : List Value} (h : l.length = vs.length) : vs ++ List.drop vs.length l = vs := by simp [← h]
set_option maxHeartbeats 1000000 in
theorem rStore_spec {w : World} {base n c a x : Nat} {L : List Value} {m : Nat → Int} {P : List (Nat × Int)} {va vb : Value} (h : RMem w base L n m c P va vb) (hb : base ≤ w.heap.size) (hc : c ≤ 10000) (hn : n ≤ 1000) (h8 : a % 4 = 0) (ha : a < n * 4096) (hx64 : x < 18446744073709551616) {K : Value → World → Prop}
    (hK : ∀ L' P' va' vb' w', RMem w' base L' n (stored m a 4 x) (c + 4) P' va' vb' → Ext [] w w' → K (.tuple #[.agg L'.toArray, .int .i64 0]) w') : callsK Tryz.prog 24 #[.agg L.toArray, .int .u64 a, .int .i64 4, .int .u64 x] w K := by
  have hval := h.val
  obtain ⟨hlen, hall, hsub⟩ := h.cells
  have hx0 : Ext [] w ((w.alloc (.cells L.toArray 35)).alloc (.cells #[.int .i64 0, .slice none 0 0, .slice none 0 0, .slice none 0 0] 35)) := by (repeat first | assumption | exact Ext.refl | apply Ext.alloc | apply Ext.drew | (refine Ext.updN ?_ ?_; (focus first | omega | (simp only [szR] <;> omega))) | (refine Ext.updI ?_ ?_; (focus (simp; done))))
  apply F24_ok
  unfold F24
  simp (disch := first | assumption | omega | (simp only [szR] <;> omega) | rfl | decide) only [gen0, gen1, gen2, rulesC, rulesX, rulesM, litR, bolR, Nat.reduceAdd, Nat.reduceLeDiff, numR, memR, valR, heapR, updR, intR, decR, extR, slR, segR, thenR, pnR, Int.reduceToNat, Int.reduceAdd, Int.reduceSub, Int.reduceLT, Int.reduceLE, Nat.reduceSub, Nat.reduceMul, Nat.reduceEqDiff, hsub, hlen]
  rw [hval]
  refine rMay_spec hn h8 ha fun w1 hx1 => ?_
  rw [← hval] at hx1
  have hk1 := kept0 hx1
  have hx01 := hx0.trans hx1 (by simp)
  have hc1 : w1.heap[w.heap.size]? = some (.cells L.toArray 35 (0, 0)) := (by first | with_reducible rfl | assumption | (simp (disch := first | assumption | omega | (simp only [szR] <;> omega) | rfl | decide) only [gen0, gen1, gen2, rulesC, rulesX, rulesM, litR, bolR, Nat.reduceAdd, Nat.reduceLeDiff, numR, memR, valR, heapR, updR, intR, decR, extR, slR, segR, thenR, pnR, Int.reduceToNat, Int.reduceAdd, Int.reduceSub, Int.reduceLT, Int.reduceLE, Nat.reduceSub, Nat.reduceMul, Nat.reduceEqDiff, hk1] <;> rfl))
  have hblk : P ≠ [] → ∀ b, blockOf va = some b ∨ blockOf vb = some b → b ≠ w.heap.size ∧ b ≠ w.heap.size + 1 := by
    intro h0 b hb
    have : b < w.heap.size := hb.elim (fun hb => h.rowa.blt (by simpa using h0) b hb) (fun hb => h.rowb.blt (by simpa using h0) b hb)
    omega
  have hd1 : w1.heap[w.heap.size + 1]? = some (.cells [.int .i64 0, .slice none 0 0, .slice none 0 0, .slice none 0 0].toArray 35 (0, 0)) := (by first | with_reducible rfl | assumption | (simp (disch := first | assumption | omega | (simp only [szR] <;> omega) | rfl | decide) only [gen0, gen1, gen2, rulesC, rulesX, rulesM, litR, bolR, Nat.reduceAdd, Nat.reduceLeDiff, numR, memR, valR, heapR, updR, intR, decR, extR, slR, segR, thenR, pnR, Int.reduceToNat, Int.reduceAdd, Int.reduceSub, Int.reduceLT, Int.reduceLE, Nat.reduceSub, Nat.reduceMul, Nat.reduceEqDiff, hk1] <;> rfl))
  simp (disch := first | assumption | omega | (simp only [szR] <;> omega) | rfl | decide) only [gen0, gen1, gen2, rulesC, rulesX, rulesM, litR, bolR, Nat.reduceAdd, Nat.reduceLeDiff, numR, memR, valR, heapR, updR, intR, decR, extR, slR, segR, thenR, pnR, Int.reduceToNat, Int.reduceAdd, Int.reduceSub, Int.reduceLT, Int.reduceLE, Nat.reduceSub, Nat.reduceMul, Nat.reduceEqDiff]
  refine loopT.intro (fun st w' => ∃ (k : Nat) (z : Int) (L' : List Value) (P' : List (Nat × Int)) (va' vb' : Value), k ≤ 4 ∧ st = [.int .i64 z] ∧ z = k ∧ w'.heap[w.heap.size]? = some (.cells L'.toArray 35 (0, 0)) ∧ w'.heap[w.heap.size + 1]? = some (.cells [.int .i64 0, .slice none 0 0, .slice none 0 0, .slice none 0 0].toArray 35 (0, 0)) ∧
      RMem w' base L' n (stored m a k x) (c + k) P' va' vb' ∧ (P' ≠ [] → ∀ b, blockOf va' = some b ∨ blockOf vb' = some b → b ≠ w.heap.size ∧ b ≠ w.heap.size + 1) ∧ Ext [] w w')
    (fun st _ => match st with
      | [.int _ z] => 4 - z.toNat
      | _ => 0) ⟨0, 0, L, P, va, vb, by omega, rfl, rfl, hc1, hd1, by rw [stored_zero]; exact h.ext hx01 (by simp), hblk, hx01⟩ ?_
  rintro st w' ⟨k, z, L', P', va', vb', hk, rfl, rfl, hc2, hd2, hr, hbk, hx⟩ _
  obtain ⟨hlen2, hall2, hsub2⟩ := hr.cells
  have l1 := lt_of_at hc2
  have l2 := lt_of_at hd2
  have hbw := hx.size
  by_cases hk8 : k < 4
  · have e1 : (a : Int) + k = ((a + k : Nat) : Int) := by omega
    have e2 : (8 * (k : Int)).toNat = 8 * k := by omega
    have hfd := fdiv_pow (v := x) (by omega) (8 * k)
    rw [Int.toNat_natCast] at hfd
    have hw8 := wrapU8 ((x / 2 ^ (8 * k) : Nat) : Int)
    have hwe : ((x / 2 ^ (8 * k) : Nat) : Int) % 256 = ((x / 2 ^ (8 * k) % 256 : Nat) : Int) := by simp
    rw [hwe] at hw8
    have hst := stored_succ m a k (x : Int)
    rw [Int.toNat_natCast] at hst
    have hq := Nat.mod_lt (x / 2 ^ (8 * k)) (show 256 > 0 by omega)
    generalize x / 2 ^ (8 * k) = q at hfd hw8 hst hq
    simp (disch := first | assumption | omega | (simp only [szR] <;> omega) | rfl | decide) only [gen0, gen1, gen2, rulesC, rulesX, rulesM, litR, bolR, Nat.reduceAdd, Nat.reduceLeDiff, numR, memR, valR, heapR, updR, intR, decR, extR, slR, segR, thenR, pnR, Int.reduceToNat, Int.reduceAdd, Int.reduceSub, Int.reduceLT, Int.reduceLE, Nat.reduceSub, Nat.reduceMul, Nat.reduceEqDiff, hc2, hsub2, hlen2, e1, e2, hfd, hw8]
    refine rLay_spec hr (by omega) (by omega) (by omega) fun L3 P3 va3 vb3 w3 h3 hb3 hx3 => ?_
    rw [hst] at h3
    obtain ⟨hlen3, hall3, hsub3⟩ := h3.cells
    have hk3 := kept0 hx3
    have hc3 := hx3.at hc2 (by simp)
    have hd3 := hx3.at hd2 (by simp)
    have hs3 := hx3.size
    have hsp := splice_all (l := L') (vs := L3) (by omega)
    have hdr := drop_all (l := L') (vs := L3) (by omega)
    simp (disch := first | assumption | omega | (simp only [szR] <;> omega) | rfl | decide) only [gen0, gen1, gen2, rulesC, rulesX, rulesM, litR, bolR, Nat.reduceAdd, Nat.reduceLeDiff, numR, memR, valR, heapR, updR, intR, decR, extR, slR, segR, thenR, pnR, Int.reduceToNat, Int.reduceAdd, Int.reduceSub, Int.reduceLT, Int.reduceLE, Nat.reduceSub, Nat.reduceMul, Nat.reduceEqDiff, hc3, hlen3, hall3, hsp]
    refine ⟨⟨k + 1, (k : Int) + 1, L3, P3, va3, vb3, by omega, rfl, by omega, ?_, ?_, ?_, ?_, ?_⟩, by first | omega | (simp <;> omega)⟩
    · first
        | exact congrArg (fun l : List Value => some (Obj.cells l.toArray 35 (0, 0))) hdr
        | (first | with_reducible rfl | assumption | (simp (disch := first | assumption | omega | (simp only [szR] <;> omega) | rfl | decide) only [gen0, gen1, gen2, rulesC, rulesX, rulesM, litR, bolR, Nat.reduceAdd, Nat.reduceLeDiff, numR, memR, valR, heapR, updR, intR, decR, extR, slR, segR, thenR, pnR, Int.reduceToNat, Int.reduceAdd, Int.reduceSub, Int.reduceLT, Int.reduceLE, Nat.reduceSub, Nat.reduceMul, Nat.reduceEqDiff, hdr, hsp] <;> try rfl))
    · (first | with_reducible rfl | assumption | (simp (disch := first | assumption | omega | (simp only [szR] <;> omega) | rfl | decide) only [gen0, gen1, gen2, rulesC, rulesX, rulesM, litR, bolR, Nat.reduceAdd, Nat.reduceLeDiff, numR, memR, valR, heapR, updR, intR, decR, extR, slR, segR, thenR, pnR, Int.reduceToNat, Int.reduceAdd, Int.reduceSub, Int.reduceLT, Int.reduceLE, Nat.reduceSub, Nat.reduceMul, Nat.reduceEqDiff, hd3] <;> try rfl))
    · refine h3.ext' (S := [w.heap.size]) (by (repeat first | assumption | exact Ext.refl | apply Ext.alloc | apply Ext.drew | (refine Ext.updN ?_ ?_; (focus first | omega | (simp only [szR] <;> omega))) | (refine Ext.updI ?_ ?_; (focus (simp; done))))) fun _ b hb hm => ?_
      have := hb3 b hb
      simp at hm
      omega
    · intro _ b hb
      have := hb3 b hb
      omega
    · have hx4 := hx.trans hx3 (by simp)
      (repeat first | assumption | exact Ext.refl | apply Ext.alloc | apply Ext.drew | (refine Ext.updN ?_ ?_; (focus first | omega | (simp only [szR] <;> omega))) | (refine Ext.updI ?_ ?_; (focus (simp; done))))
  · obtain rfl : k = 4 := by omega
    have hsp : splice [Value.int .i64 0, .slice none 0 0, .slice none 0 0, .slice none 0 0] 0 L' = L' := splice_all (by rw [hlen2]; rfl)
    simp (disch := first | assumption | omega | (simp only [szR] <;> omega) | rfl | decide) only [gen0, gen1, gen2, rulesC, rulesX, rulesM, litR, bolR, Nat.reduceAdd, Nat.reduceLeDiff, numR, memR, valR, heapR, updR, intR, decR, extR, slR, segR, thenR, pnR, Int.reduceToNat, Int.reduceAdd, Int.reduceSub, Int.reduceLT, Int.reduceLE, Nat.reduceSub, Nat.reduceMul, Nat.reduceEqDiff, hc2, hd2, hlen2, hall2, hsub2, hsp]
    refine hK _ _ _ _ _ (hr.ext' (S := [w.heap.size + 1]) (by (repeat first | assumption | exact Ext.refl | apply Ext.alloc | apply Ext.drew | (refine Ext.updN ?_ ?_; (focus first | omega | (simp only [szR] <;> omega))) | (refine Ext.updI ?_ ?_; (focus (simp; done))))) ?_) (by (repeat first | assumption | exact Ext.refl | apply Ext.alloc | apply Ext.drew | (refine Ext.updN ?_ ?_; (focus first | omega | (simp only [szR] <;> omega))) | (refine Ext.updI ?_ ?_; (focus (simp; done)))))
    intro h0 b hb hm
    have := hbk h0 b hb
    simp at hm
    omega
end Go.Proofs.YtplfniijbeinmaaGreat
