/- Capabilities: what they tell, whether they may have a tag, and be used; conditions: those of each theorem. -/
import Derived.Test.YtplfniijbeinmaaGreatLook
import Derived.Test.YtplfniijbeinmaaGreatFX
import Derived.Test.YtplfniijbeinmaaGreatRX
import Derived.Test.YtplfniijbeinmaaGreatRel
namespace Go.Proofs.YtplfniijbeinmaaGreat
open Go.Fx
set_option maxRecDepth 100000
set_option linter.unusedSimpArgs false
set_option linter.unusedVariables false
theorem cpC_len (t : Bool) (m a : Nat) : (cpC t m a).length = 3 := by simp [cpC]
theorem cpC_all (t : Bool) (m a : Nat) : (cpC t m a).all (fun v => v.oneCell') = true := by simp [cpC]; exact ⟨rfl, rfl, rfl⟩
theorem vwC_len (m a : Nat) : (vwC m a).length = 4 := by simp [vwC]
theorem vwC_all (m a : Nat) : (vwC m a).all (fun v => v.oneCell') = true := by simp [vwC]; exact ⟨rfl, rfl, rfl, rfl⟩
theorem cpC_sub (t : Bool) (m a : Nat) : sub (cpC t m a) 0 3 = cpC t m a := rfl
theorem vwC_sub (m a : Nat) : sub (vwC m a) 0 4 = vwC m a := rfl
/-- a part: where it begins, its width, its number. -/
def ptC (p : Nat × Nat × Nat) : List Value := [.int .i64 (p.1 : Nat), .int .i64 (p.2.1 : Nat), .int .u64 (p.2.2 : Nat)]
theorem ptC_len (p : Nat × Nat × Nat) : (ptC p).length = 3 := by simp [ptC]
theorem ptC_all (p : Nat × Nat × Nat) : (ptC p).all (fun v => v.oneCell') = true := by simp [ptC]; exact ⟨rfl, rfl, rfl⟩
theorem ptC_sub (p : Nat × Nat × Nat) : sub (ptC p) 0 3 = ptC p := rfl
theorem ptC_over (p : Nat × Nat × Nat) : splice [.int .i64 0, .int .i64 0, .int .u64 0] 0 (ptC p) = ptC p := rfl
theorem ptC_over2 (p : Nat × Nat × Nat) : ptC p ++ List.drop (ptC p).length [.int .i64 0, .int .i64 0, .int .u64 0] = ptC p := by simp [ptC]
def ptOk (p : Nat × Nat × Nat) : Prop := 0 < p.2.1 ∧ p.2.1 < 64 ∧ p.1 + p.2.1 ≤ 64 ∧ p.2.2 < 18446744073709551616
def putN (x : Nat) (p : Nat × Nat × Nat) : Nat := x + p.2.2 % 2 ^ p.2.1 * 2 ^ p.1
theorem LayF_spec {w : World} {x b : Nat} {p : Nat × Nat × Nat} {t : TypeId} (hp : ptOk p) (hx : x < 2 ^ p.1) (hb : w.heap[b]? = some (.cells [.int .u64 (x : Nat)].toArray t (0, 0))) {K : Value → World → Prop}
    (hK : ∀ w', w'.heap[b]? = some (.cells [.int .u64 (putN x p : Nat)].toArray t (0, 0)) → Ext [b] w w' → K (.tuple #[]) w') : callsK Tryz.prog 90 #[.agg (ptC p).toArray, .pointer (some ⟨b, 0, none⟩)] w K := by
  obtain ⟨h1, h2, h3, h4⟩ := hp
  have hlt := lt_of_at hb
  apply F90_ok
  unfold F90
  have g : ∀ k, (ptC p)[k]? = if k = 0 then some (.int .i64 (p.1 : Nat)) else if k = 1 then some (.int .i64 (p.2.1 : Nat)) else if k = 2 then some (.int .u64 (p.2.2 : Nat)) else none := by
    intro k
    match k with
    | 0 => rfl
    | 1 => rfl
    | 2 => rfl
    | k + 3 => simp [ptC]
  have g0 := g 0
  have g1 := g 1
  have g2 := g 2
  simp only [if_true, if_neg (show ¬ (1 : Nat) = 0 by omega), if_neg (show ¬ (2 : Nat) = 0 by omega), if_neg (show ¬ (2 : Nat) = 1 by omega)] at g0 g1 g2
  simp (disch := first | assumption | omega | (simp only [szR, fdsC_len, fdsC_all, spC_len, spC_all, cpC_len, vwC_len, cpC_all, vwC_all, ptC_len, ptC_all] <;> omega) | rfl | decide) only [gen0, gen1, gen2, rulesC, rulesX, litR, bolR, Nat.reduceAdd, Nat.reduceLeDiff, numR, memR, valR, heapR, updR, intR, decR, extR, slR, segR, thenR, pnR, Int.reduceToNat, Int.reduceAdd, Int.reduceSub, Int.reduceLT, Int.reduceLE, Nat.reduceSub, Nat.reduceMul, Nat.reduceEqDiff, hb, g0, g1, g2]
  refine fPut_spec (by omega) (by omega) (by omega) (by simpa using hx) h4 fun w' hx' => ?_
  have hx2 : Ext [] w w' := Ext.trans (by (repeat first | assumption | exact Ext.refl | apply Ext.alloc | apply Ext.drew | (refine Ext.updN ?_ ?_; (focus first | omega | (simp only [szR] <;> omega))) | (refine Ext.updI ?_ ?_; (focus (simp; done))))) hx' (by simp)
  have hb' := hx2.at hb (by simp)
  simp (disch := first | assumption | omega | (simp only [szR, fdsC_len, fdsC_all, spC_len, spC_all, cpC_len, vwC_len, cpC_all, vwC_all, ptC_len, ptC_all] <;> omega) | rfl | decide) only [gen0, gen1, gen2, rulesC, rulesX, litR, bolR, Nat.reduceAdd, Nat.reduceLeDiff, numR, memR, valR, heapR, updR, intR, decR, extR, slR, segR, thenR, pnR, Int.reduceToNat, Int.reduceAdd, Int.reduceSub, Int.reduceLT, Int.reduceLE, Nat.reduceSub, Nat.reduceMul, Nat.reduceEqDiff, hb', List.set_cons_zero]
  have hx3 : Ext [b] w w' := hx2.mono nofun
  have hx4 : Ext [b] w (World.upd w' b [.int .u64 (putN x p : Nat)]) := by (repeat first | assumption | exact Ext.refl | apply Ext.alloc | apply Ext.drew | (refine Ext.updN ?_ ?_; (focus first | omega | (simp only [szR] <;> omega))) | (refine Ext.updI ?_ ?_; (focus (simp; done))))
  have := hK _ (upd_at (l := [.int .u64 (putN x p : Nat)]) hb') hx4
  exact this
theorem Lay_spec {w : World} {v : Value} {ps : List (Nat × Nat × Nat)} (hv : RowsAt w v 3 (ps.map ptC)) (hp : ∀ p ∈ ps, ptOk p) (hx : ∀ k p, ps[k]? = some p → (ps.take k).foldl putN 0 < 2 ^ p.1) {K : Value → World → Prop}
    (hK : ∀ w', Ext [] w w' → K (.int .u64 (ps.foldl putN 0 : Nat)) w') : callsK Tryz.prog 51 #[v] w K := by
  apply F51_ok
  unfold F51
  have hcap : ps.length ≤ maxLen := by
    obtain ⟨_, _, _, ⟨hc1, hc2⟩, _⟩ := id hv
    rw [List.length_map] at hc1
    omega
  simp only [maxLen] at hcap
  have hlen : (ps.map ptC).length = ps.length := by simp
  obtain ⟨a, cap, rfl⟩ := hv.len
  simp (disch := first | assumption | omega | (simp only [szR, fdsC_len, fdsC_all, spC_len, spC_all, cpC_len, vwC_len, cpC_all, vwC_all, ptC_len, ptC_all] <;> omega) | rfl | decide) only [gen0, gen1, gen2, rulesC, rulesX, litR, bolR, Nat.reduceAdd, Nat.reduceLeDiff, numR, memR, valR, heapR, updR, intR, decR, extR, slR, segR, thenR, pnR, Int.reduceToNat, Int.reduceAdd, Int.reduceSub, Int.reduceLT, Int.reduceLE, Nat.reduceSub, Nat.reduceMul, Nat.reduceEqDiff]
  refine loopT.intro (fun st w' => ∃ (k : Nat), k ≤ ps.length ∧ st = [.int .i64 (k : Nat)] ∧ w'.heap[w.heap.size]? = some (.cells [.int .u64 ((ps.take k).foldl putN 0 : Nat)].toArray 22 (0, 0)) ∧ Ext [] w w')
    (fun st _ => match st with
      | [.int _ z] => ps.length - z.toNat
      | _ => 0) ⟨0, Nat.zero_le _, rfl, by simp (disch := first | assumption | omega | (simp only [szR, fdsC_len, fdsC_all, spC_len, spC_all, cpC_len, vwC_len, cpC_all, vwC_all, ptC_len, ptC_all] <;> omega) | rfl | decide) only [gen0, gen1, gen2, rulesC, rulesX, litR, bolR, Nat.reduceAdd, Nat.reduceLeDiff, numR, memR, valR, heapR, updR, intR, decR, extR, slR, segR, thenR, pnR, Int.reduceToNat, Int.reduceAdd, Int.reduceSub, Int.reduceLT, Int.reduceLE, Nat.reduceSub, Nat.reduceMul, Nat.reduceEqDiff]; rfl, by (repeat first | assumption | exact Ext.refl | apply Ext.alloc | apply Ext.drew | (refine Ext.updN ?_ ?_; (focus first | omega | (simp only [szR] <;> omega))) | (refine Ext.updI ?_ ?_; (focus (simp; done))))⟩ ?_
  rintro st w' ⟨k, hk, rfl, h1, hx'⟩ _
  have l1 := lt_of_at h1
  by_cases h4 : k < ps.length
  · obtain ⟨p, hpk⟩ : ∃ p, ps[k]? = some p := ⟨_, List.getElem?_eq_getElem h4⟩
    have hrow : (ps.map ptC)[k]? = some (ptC p) := by rw [List.getElem?_map, hpk]; rfl
    obtain ⟨b0, o0, lb, E0, f0, hix, hb0, hfit, hblt, hbk, hsub, hget⟩ := RowsAt.ixR Tryz.underlying179 Tryz.sizeOf131 hv hrow
    have hb3 := hx'.at hb0 (by simp)
    have hs := hsub o0 rfl
    simp (disch := first | assumption | omega | (simp only [szR, fdsC_len, fdsC_all, spC_len, spC_all, cpC_len, vwC_len, cpC_all, vwC_all, ptC_len, ptC_all] <;> omega) | rfl | decide) only [gen0, gen1, gen2, rulesC, rulesX, litR, bolR, Nat.reduceAdd, Nat.reduceLeDiff, numR, memR, valR, heapR, updR, intR, decR, extR, slR, segR, thenR, pnR, Int.reduceToNat, Int.reduceAdd, Int.reduceSub, Int.reduceLT, Int.reduceLE, Nat.reduceSub, Nat.reduceMul, Nat.reduceEqDiff, hix, hb3, hs, ptC_over, ptC_over2, ptC_sub]
    have hx2 : Ext [] w' (w'.alloc (.cells (ptC p).toArray 131)) := by (repeat first | assumption | exact Ext.refl | apply Ext.alloc | apply Ext.drew | (refine Ext.updN ?_ ?_; (focus first | omega | (simp only [szR] <;> omega))) | (refine Ext.updI ?_ ?_; (focus (simp; done))))
    refine LayF_spec (hp p (List.mem_of_getElem? hpk)) (hx k p hpk) (hx2.at h1 (by simp)) fun w2 h2 hx3 => ?_
    simp (disch := first | assumption | omega | (simp only [szR, fdsC_len, fdsC_all, spC_len, spC_all, cpC_len, vwC_len, cpC_all, vwC_all, ptC_len, ptC_all] <;> omega) | rfl | decide) only [gen0, gen1, gen2, rulesC, rulesX, litR, bolR, Nat.reduceAdd, Nat.reduceLeDiff, numR, memR, valR, heapR, updR, intR, decR, extR, slR, segR, thenR, pnR, Int.reduceToNat, Int.reduceAdd, Int.reduceSub, Int.reduceLT, Int.reduceLE, Nat.reduceSub, Nat.reduceMul, Nat.reduceEqDiff]
    have htk : (ps.take (k + 1)).foldl putN 0 = putN ((ps.take k).foldl putN 0) p := by
      rw [List.take_add_one, hpk, List.foldl_append]
      rfl
    exact ⟨⟨k + 1, by omega, rfl, by rw [htk]; exact h2, (hx'.trans hx2 (by simp)).trans hx3 (by simp)⟩, by first | omega | (simp <;> omega)⟩
  · obtain rfl : k = ps.length := by omega
    rw [List.take_length] at h1
    simp (disch := first | assumption | omega | (simp only [szR, fdsC_len, fdsC_all, spC_len, spC_all, cpC_len, vwC_len, cpC_all, vwC_all, ptC_len, ptC_all] <;> omega) | rfl | decide) only [gen0, gen1, gen2, rulesC, rulesX, litR, bolR, Nat.reduceAdd, Nat.reduceLeDiff, numR, memR, valR, heapR, updR, intR, decR, extR, slR, segR, thenR, pnR, Int.reduceToNat, Int.reduceAdd, Int.reduceSub, Int.reduceLT, Int.reduceLE, Nat.reduceSub, Nat.reduceMul, Nat.reduceEqDiff, h1]
    exact hK _ hx'
/-! ### what a capability keeps -/
theorem bs3 (a b c : List Value) (h1 : a.length = 3) (h2 : b.length = 3) (h3 : c.length = 3) (w : World) : (Instr.buildSlice 179 3 #[(0, .agg a.toArray), (1, .agg b.toArray), (2, .agg c.toArray)]).run Tryz.prog w = .ok (.slice (some ⟨w.heap.size, 0, none⟩) 3 3) (w.alloc (.cells (a ++ (b ++ c)).toArray 131)) := by
  have := run_bs Tryz.underlying179 (e := 131) (size := 3) (by kernel_rfl) [.agg a.toArray, .agg b.toArray, .agg c.toArray] (by simp [Value.cells, h1, h2, h3]) (by simp) w
  simpa [Value.cells, partsFrom] using this
theorem rows3 {w : World} {E : TypeId} {f : Nat × Nat} {g : Nat} {p q r : Nat × Nat × Nat} (h : w.heap[g]? = some (.cells (ptC p ++ (ptC q ++ ptC r)).toArray E f)) : RowsAt w (.slice (some ⟨g, 0, none⟩) 3 3) 3 ([p, q, r].map ptC) :=
  ⟨_, 3, rfl, ⟨Nat.le_refl _, by simp [maxLen]⟩, .inr ⟨g, 0, _, E, f, rfl, h, by simp [ptC_len], fun i r hi => by
    match i, hi with
    | 0, hi => simp at hi; subst hi; simp [sub, ptC]
    | 1, hi => simp at hi; subst hi; simp [sub, ptC]
    | 2, hi => simp at hi; subst hi; simp [sub, ptC]⟩⟩
theorem putN_eq (x a k v : Nat) : putN x (a, k, v) = x + v % 2 ^ k * 2 ^ a := rfl
/-- a word, permissions, and a type, as they are kept. -/
def mtN (x p t : Nat) : Nat := putN (putN (putN 0 (0, 32, x)) (32, 9, p)) (48, 12, t)
theorem mtN_eq (x p t : Nat) : mtN x p t = x % 4294967296 + p % 512 * 4294967296 + t % 4096 * 281474976710656 := by
  have p32 : (2 : Nat) ^ 32 = 4294967296 := by decide
  have p48 : (2 : Nat) ^ 48 = 281474976710656 := by decide
  have p12 : (2 : Nat) ^ 12 = 4096 := by decide
  have p9 : (2 : Nat) ^ 9 = 512 := by decide
  unfold mtN
  rw [putN_eq, putN_eq, putN_eq, p32, p48, p12, p9, Nat.pow_zero, Nat.mul_one, Nat.zero_add]
theorem put_one (x : Nat) : putN 0 (0, 32, x) < 2 ^ 32 := by
  have p32 : (2 : Nat) ^ 32 = 4294967296 := by decide
  rw [putN_eq, p32, Nat.pow_zero, Nat.mul_one, Nat.zero_add]
  exact Nat.mod_lt _ (by decide)
theorem put_two (x p : Nat) : putN (putN 0 (0, 32, x)) (32, 9, p) < 2 ^ 48 := by
  have p32 : (2 : Nat) ^ 32 = 4294967296 := by decide
  have p48 : (2 : Nat) ^ 48 = 281474976710656 := by decide
  have p9 : (2 : Nat) ^ 9 = 512 := by decide
  rw [putN_eq, putN_eq, p32, p48, p9, Nat.pow_zero, Nat.mul_one, Nat.zero_add]
  omega
theorem fold3 (x p t : Nat) : [((0 : Nat), (32 : Nat), x), (32, 9, p), (48, 12, t)].foldl putN 0 = mtN x p t := by
  unfold mtN
  rw [List.foldl_cons, List.foldl_cons, List.foldl_cons, List.foldl_nil]
theorem fold3_lt (x p t : Nat) : ∀ k q, [((0 : Nat), (32 : Nat), x), (32, 9, p), (48, 12, t)][k]? = some q → (([((0 : Nat), (32 : Nat), x), (32, 9, p), (48, 12, t)].take k).foldl putN 0) < 2 ^ q.1 := by
  intro k q hq
  match k, hq with
  | 0, hq => exact Nat.two_pow_pos _
  | 1, hq =>
    simp only [List.getElem?_cons_succ, List.getElem?_cons_zero, Option.some.injEq] at hq
    rw [← hq, List.take_succ_cons, List.take_zero, List.foldl_cons, List.foldl_nil]
    exact put_one x
  | 2, hq =>
    simp only [List.getElem?_cons_succ, List.getElem?_cons_zero, Option.some.injEq] at hq
    rw [← hq, List.take_succ_cons, List.take_succ_cons, List.take_zero, List.foldl_cons, List.foldl_cons, List.foldl_nil]
    exact put_two x p
  | k + 3, hq => simp at hq
theorem pts3 {x p t : Nat} (hw : x < 18446744073709551616) (hp : p < 18446744073709551616) (ht : t < 18446744073709551616) : ∀ q ∈ [((0 : Nat), (32 : Nat), x), (32, 9, p), (48, 12, t)], ptOk q := by
  intro q hq
  simp only [List.mem_cons, List.not_mem_nil, or_false] at hq
  rcases hq with rfl | rfl | rfl
  · exact ⟨by simp, by simp, by simp, hw⟩
  · exact ⟨by simp, by simp, by simp, hp⟩
  · exact ⟨by simp, by simp, by simp, ht⟩
theorem meta_spec {w : World} {B T E : Nat} {b0 b1 : Value} {p t : Nat} (hB : B < 18446744073709551616) (hT : T < 18446744073709551616) (hE : E < 18446744073709551616) (hw : wordF B T E 3 < 18446744073709551616) (hp : p < 18446744073709551616) (ht : t < 18446744073709551616) {K : Value → World → Prop}
    (hK : ∀ w', Ext [] w w' → K (.int .u64 (mtN (wordF B T E 3) p t : Nat)) w') : callsK Tryz.prog 20 #[.agg (fdsC B T E).toArray, .agg [b0, b1, .int .u64 (p : Nat), .int .u64 (t : Nat)].toArray] w K := by
  apply F20_ok
  unfold F20
  simp (disch := first | assumption | omega | (simp only [szR, fdsC_len, fdsC_all, spC_len, spC_all, cpC_len, vwC_len, cpC_all, vwC_all, ptC_len, ptC_all] <;> omega) | rfl | decide) only [gen0, gen1, gen2, rulesC, rulesX, litR, bolR, Nat.reduceAdd, Nat.reduceLeDiff, numR, memR, valR, heapR, updR, intR, decR, extR, slR, segR, thenR, pnR, Int.reduceToNat, Int.reduceAdd, Int.reduceSub, Int.reduceLT, Int.reduceLE, Nat.reduceSub, Nat.reduceMul, Nat.reduceEqDiff]
  have hd0 : Ext [] w ((w.alloc (.cells (fdsC B T E).toArray 69)).alloc (.cells [b0, b1, .int .u64 (p : Nat), .int .u64 (t : Nat)].toArray 28)).drew := by (repeat first | assumption | exact Ext.refl | apply Ext.alloc | apply Ext.drew | (refine Ext.updN ?_ ?_; (focus first | omega | (simp only [szR] <;> omega))) | (refine Ext.updI ?_ ?_; (focus (simp; done))))
  have h2 : ((w.alloc (.cells (fdsC B T E).toArray 69)).alloc (.cells [b0, b1, .int .u64 (p : Nat), .int .u64 (t : Nat)].toArray 28)).drew.heap[w.heap.size]? = some (.cells (fdsC B T E).toArray 69 (0, 0)) := (by first | with_reducible rfl | assumption | (simp (disch := first | assumption | omega | (simp only [szR, fdsC_len, fdsC_all, spC_len, spC_all, cpC_len, vwC_len, cpC_all, vwC_all, ptC_len, ptC_all] <;> omega) | rfl | decide) only [gen0, gen1, gen2, rulesC, rulesX, litR, bolR, Nat.reduceAdd, Nat.reduceLeDiff, numR, memR, valR, heapR, updR, intR, decR, extR, slR, segR, thenR, pnR, Int.reduceToNat, Int.reduceAdd, Int.reduceSub, Int.reduceLT, Int.reduceLE, Nat.reduceSub, Nat.reduceMul, Nat.reduceEqDiff] <;> rfl))
  have h3 : ((w.alloc (.cells (fdsC B T E).toArray 69)).alloc (.cells [b0, b1, .int .u64 (p : Nat), .int .u64 (t : Nat)].toArray 28)).drew.heap[w.heap.size + 1]? = some (.cells [b0, b1, .int .u64 (p : Nat), .int .u64 (t : Nat)].toArray 28 (0, 0)) := (by first | with_reducible rfl | assumption | (simp (disch := first | assumption | omega | (simp only [szR, fdsC_len, fdsC_all, spC_len, spC_all, cpC_len, vwC_len, cpC_all, vwC_all, ptC_len, ptC_all] <;> omega) | rfl | decide) only [gen0, gen1, gen2, rulesC, rulesX, litR, bolR, Nat.reduceAdd, Nat.reduceLeDiff, numR, memR, valR, heapR, updR, intR, decR, extR, slR, segR, thenR, pnR, Int.reduceToNat, Int.reduceAdd, Int.reduceSub, Int.reduceLT, Int.reduceLE, Nat.reduceSub, Nat.reduceMul, Nat.reduceEqDiff] <;> rfl))
  generalize ((w.alloc (.cells (fdsC B T E).toArray 69)).alloc (.cells [b0, b1, .int .u64 (p : Nat), .int .u64 (t : Nat)].toArray 28)).drew = w1 at *
  have e1 : sub (fdsC B T E) 0 3 = fdsC B T E := rfl
  refine relX.ext [] ?_
  refine postX.is (.agg (fdsC B T E).toArray) (fun v w' hR _ => by
    have e := hR.at h2 (by simp)
    simp (disch := first | assumption | omega | (simp only [szR, fdsC_len, fdsC_all, spC_len, spC_all, cpC_len, vwC_len, cpC_all, vwC_all, ptC_len, ptC_all] <;> omega) | rfl | decide) only [gen0, gen1, gen2, rulesC, rulesX, litR, bolR, Nat.reduceAdd, Nat.reduceLeDiff, numR, memR, valR, heapR, updR, intR, decR, extR, slR, segR, thenR, pnR, Int.reduceToNat, Int.reduceAdd, Int.reduceSub, Int.reduceLT, Int.reduceLE, Nat.reduceSub, Nat.reduceMul, Nat.reduceEqDiff, e, e1]
    exact okX.is) ?_
  refine postX.is (.int .u64 (wordF B T E 3 : Nat)) (fun v w' hR hd => by
    obtain ⟨d1, -⟩ := hd
    simp (disch := first | assumption | omega | (simp only [szR, fdsC_len, fdsC_all, spC_len, spC_all, cpC_len, vwC_len, cpC_all, vwC_all, ptC_len, ptC_all] <;> omega) | rfl | decide) only [gen0, gen1, gen2, rulesC, rulesX, litR, bolR, Nat.reduceAdd, Nat.reduceLeDiff, numR, memR, valR, heapR, updR, intR, decR, extR, slR, segR, thenR, pnR, Int.reduceToNat, Int.reduceAdd, Int.reduceSub, Int.reduceLT, Int.reduceLE, Nat.reduceSub, Nat.reduceMul, Nat.reduceEqDiff, d1]
    exact BWord_spec hB hT hE fun w'' hx => okX.mk hx rfl) ?_
  refine postX.is (.agg (ptC (0, 32, wordF B T E 3)).toArray) (fun v w' hR hd => by
    obtain ⟨d1, -⟩ := hd
    simp (disch := first | assumption | omega | (simp only [szR, fdsC_len, fdsC_all, spC_len, spC_all, cpC_len, vwC_len, cpC_all, vwC_all, ptC_len, ptC_all] <;> omega) | rfl | decide) only [gen0, gen1, gen2, rulesC, rulesX, litR, bolR, Nat.reduceAdd, Nat.reduceLeDiff, numR, memR, valR, heapR, updR, intR, decR, extR, slR, segR, thenR, pnR, Int.reduceToNat, Int.reduceAdd, Int.reduceSub, Int.reduceLT, Int.reduceLE, Nat.reduceSub, Nat.reduceMul, Nat.reduceEqDiff, d1]
    exact okX.is) ?_
  refine postX.is (.pointer (some ⟨w.heap.size + 1, 2, none⟩)) (fun v w' hR _ => by simp (disch := first | assumption | omega | (simp only [szR, fdsC_len, fdsC_all, spC_len, spC_all, cpC_len, vwC_len, cpC_all, vwC_all, ptC_len, ptC_all] <;> omega) | rfl | decide) only [gen0, gen1, gen2, rulesC, rulesX, litR, bolR, Nat.reduceAdd, Nat.reduceLeDiff, numR, memR, valR, heapR, updR, intR, decR, extR, slR, segR, thenR, pnR, Int.reduceToNat, Int.reduceAdd, Int.reduceSub, Int.reduceLT, Int.reduceLE, Nat.reduceSub, Nat.reduceMul, Nat.reduceEqDiff]; exact okX.is) ?_
  refine postX.is (.int .u64 (p : Nat)) (fun v w' hR hd => by
    obtain ⟨d1, -⟩ := hd
    have e := hR.at h3 (by simp)
    simp (disch := first | assumption | omega | (simp only [szR, fdsC_len, fdsC_all, spC_len, spC_all, cpC_len, vwC_len, cpC_all, vwC_all, ptC_len, ptC_all] <;> omega) | rfl | decide) only [gen0, gen1, gen2, rulesC, rulesX, litR, bolR, Nat.reduceAdd, Nat.reduceLeDiff, numR, memR, valR, heapR, updR, intR, decR, extR, slR, segR, thenR, pnR, Int.reduceToNat, Int.reduceAdd, Int.reduceSub, Int.reduceLT, Int.reduceLE, Nat.reduceSub, Nat.reduceMul, Nat.reduceEqDiff, d1, e]
    exact okX.is) ?_
  refine postX.is (.agg (ptC (32, 9, p)).toArray) (fun v w' hR hd => by
    obtain ⟨d1, -⟩ := hd
    simp (disch := first | assumption | omega | (simp only [szR, fdsC_len, fdsC_all, spC_len, spC_all, cpC_len, vwC_len, cpC_all, vwC_all, ptC_len, ptC_all] <;> omega) | rfl | decide) only [gen0, gen1, gen2, rulesC, rulesX, litR, bolR, Nat.reduceAdd, Nat.reduceLeDiff, numR, memR, valR, heapR, updR, intR, decR, extR, slR, segR, thenR, pnR, Int.reduceToNat, Int.reduceAdd, Int.reduceSub, Int.reduceLT, Int.reduceLE, Nat.reduceSub, Nat.reduceMul, Nat.reduceEqDiff, d1]
    exact okX.is) ?_
  refine postX.is (.pointer (some ⟨w.heap.size + 1, 3, none⟩)) (fun v w' hR _ => by simp (disch := first | assumption | omega | (simp only [szR, fdsC_len, fdsC_all, spC_len, spC_all, cpC_len, vwC_len, cpC_all, vwC_all, ptC_len, ptC_all] <;> omega) | rfl | decide) only [gen0, gen1, gen2, rulesC, rulesX, litR, bolR, Nat.reduceAdd, Nat.reduceLeDiff, numR, memR, valR, heapR, updR, intR, decR, extR, slR, segR, thenR, pnR, Int.reduceToNat, Int.reduceAdd, Int.reduceSub, Int.reduceLT, Int.reduceLE, Nat.reduceSub, Nat.reduceMul, Nat.reduceEqDiff]; exact okX.is) ?_
  refine postX.is (.int .u64 (t : Nat)) (fun v w' hR hd => by
    obtain ⟨d1, -⟩ := hd
    have e := hR.at h3 (by simp)
    simp (disch := first | assumption | omega | (simp only [szR, fdsC_len, fdsC_all, spC_len, spC_all, cpC_len, vwC_len, cpC_all, vwC_all, ptC_len, ptC_all] <;> omega) | rfl | decide) only [gen0, gen1, gen2, rulesC, rulesX, litR, bolR, Nat.reduceAdd, Nat.reduceLeDiff, numR, memR, valR, heapR, updR, intR, decR, extR, slR, segR, thenR, pnR, Int.reduceToNat, Int.reduceAdd, Int.reduceSub, Int.reduceLT, Int.reduceLE, Nat.reduceSub, Nat.reduceMul, Nat.reduceEqDiff, d1, e]
    exact okX.is) ?_
  refine postX.is (.agg (ptC (48, 12, t)).toArray) (fun v w' hR hd => by
    obtain ⟨d1, -⟩ := hd
    simp (disch := first | assumption | omega | (simp only [szR, fdsC_len, fdsC_all, spC_len, spC_all, cpC_len, vwC_len, cpC_all, vwC_all, ptC_len, ptC_all] <;> omega) | rfl | decide) only [gen0, gen1, gen2, rulesC, rulesX, litR, bolR, Nat.reduceAdd, Nat.reduceLeDiff, numR, memR, valR, heapR, updR, intR, decR, extR, slR, segR, thenR, pnR, Int.reduceToNat, Int.reduceAdd, Int.reduceSub, Int.reduceLT, Int.reduceLE, Nat.reduceSub, Nat.reduceMul, Nat.reduceEqDiff, d1]
    exact okX.is) ?_
  intro v w2 hR hd _
  obtain ⟨-, -, d7, -, -, d10, -, -, d13, -⟩ := hd
  rw [d7, d10, d13]
  have hbs := bs3 (ptC (0, 32, wordF B T E 3)) (ptC (32, 9, p)) (ptC (48, 12, t)) rfl rfl rfl
  simp (disch := first | assumption | omega | (simp only [szR, fdsC_len, fdsC_all, spC_len, spC_all, cpC_len, vwC_len, cpC_all, vwC_all, ptC_len, ptC_all] <;> omega) | rfl | decide) only [gen0, gen1, gen2, rulesC, rulesX, litR, bolR, Nat.reduceAdd, Nat.reduceLeDiff, numR, memR, valR, heapR, updR, intR, decR, extR, slR, segR, thenR, pnR, Int.reduceToNat, Int.reduceAdd, Int.reduceSub, Int.reduceLT, Int.reduceLE, Nat.reduceSub, Nat.reduceMul, Nat.reduceEqDiff, hbs]
  have hx3 : Ext [] w2 (w2.alloc (.cells (ptC (0, 32, wordF B T E 3) ++ (ptC (32, 9, p) ++ ptC (48, 12, t))).toArray 131)) := by (repeat first | assumption | exact Ext.refl | apply Ext.alloc | apply Ext.drew | (refine Ext.updN ?_ ?_; (focus first | omega | (simp only [szR] <;> omega))) | (refine Ext.updI ?_ ?_; (focus (simp; done))))
  have hrow : RowsAt (w2.alloc (.cells (ptC (0, 32, wordF B T E 3) ++ (ptC (32, 9, p) ++ ptC (48, 12, t))).toArray 131)) (.slice (some ⟨w2.heap.size, 0, none⟩) 3 3) 3 ([(0, 32, wordF B T E 3), (32, 9, p), (48, 12, t)].map ptC) := rows3 (E := 131) (f := (0, 0)) (by first | with_reducible rfl | assumption | (simp (disch := first | assumption | omega | (simp only [szR, fdsC_len, fdsC_all, spC_len, spC_all, cpC_len, vwC_len, cpC_all, vwC_all, ptC_len, ptC_all] <;> omega) | rfl | decide) only [gen0, gen1, gen2, rulesC, rulesX, litR, bolR, Nat.reduceAdd, Nat.reduceLeDiff, numR, memR, valR, heapR, updR, intR, decR, extR, slR, segR, thenR, pnR, Int.reduceToNat, Int.reduceAdd, Int.reduceSub, Int.reduceLT, Int.reduceLE, Nat.reduceSub, Nat.reduceMul, Nat.reduceEqDiff] <;> rfl))
  refine Lay_spec hrow (pts3 hw hp ht) (fold3_lt _ _ _) fun w3 hx4 => ?_
  rw [fold3]
  exact hK w3 (hd0.trans (hR.trans (hx3.trans hx4 (by simp)) (by simp)) (by simp))
end Go.Proofs.YtplfniijbeinmaaGreat
