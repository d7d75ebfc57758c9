/- Bitmaps: what is painted, by granules; a copy; has, and how many; conditions: those of each theorem. -/
import Derived.Test.YtgnibcaflidjmaaBm2
import Derived.Laws.Externs
namespace Go.Proofs.Ytgnibcaflidjmaa
open Go.Fx
set_option maxRecDepth 100000
set_option linter.unusedSimpArgs false
set_option linter.unusedVariables false
theorem check_int {P : Program} {t : TypeId} {k : IntKind} {e : Bool} {n : Nat} {v : Value} (h : P.underlying t = some (.int k)) (w : World) : (Instr.checkKey e (n + 1) t v).run P w = .ok () w := by
  unfold Instr.checkKey
  rw [Sem.run_bind, run_underlying h]
  rfl
def pgf (k : Nat) : Value := .int .u64 (k : Int)
def setf (f : Nat → Bool) : Value := .agg (tsC f).toArray
theorem pgKey : KeyOk Try.prog 28 pgf := by
  refine ⟨.inl ⟨_, Try.underlying28, fun a b => ?_⟩, fun e a w => check_int Try.underlying28 w, fun a => ?_⟩
  · show some ((a : Int) == (b : Int)) = some (decide (a = b))
    congr 1
    rw [Bool.eq_iff_iff, beq_iff_eq, decide_eq_true_eq]
    omega
  · simp [pgf, Instr.sameBits]
theorem setZ (w : World) : (zeroValue 88).run Try.prog w = .ok (setf fun _ => false) w := by
  rw [Try.zeroValue88, setf, tsC_zero]
/-- a page's granules. -/
def pgB (B : Nat → Bool) (k : Nat) : Nat → Bool := fun j => decide (j < 256) && B (256 * k + j)
theorem pgB_at {B : Nat → Bool} {k j : Nat} (h : j < 256) : pgB B k j = B (256 * k + j) := by unfold pgB; rw [decide_eq_true h, Bool.true_and]
def bmF (B : Nat → Bool) (k : Nat) : Option (Nat → Bool) := if anyB (pgB B k) then some (pgB B k) else none
theorem pgB_none {B : Nat → Bool} {k : Nat} (h : anyB (pgB B k) = false) : pgB B k = fun _ => false := by
  funext j
  by_cases hj : j < 256
  · exact anyB_no.1 h j hj
  · unfold pgB; rw [decide_eq_false hj, Bool.false_and]
theorem bmF_get (B : Nat → Bool) (k : Nat) : ((bmF B k).map setf).getD (setf fun _ => false) = setf (pgB B k) := by
  unfold bmF
  cases h : anyB (pgB B k) with
  | true => rfl
  | false => rw [pgB_none h]; rfl
/-- a bitmap: a map, or none. -/
def Bm (w : World) (o : Option Nat) (B : Nat → Bool) : Prop := match o with
  | none => ∀ g, B g = false
  | some m => MapF w m pgf setf (bmF B)
theorem Bm.ext {w w' : World} {o : Option Nat} {B : Nat → Bool} {S : List Nat} (h : Bm w o B) (hx : Ext S w w') (hs : ∀ m, o = some m → m ∉ S) : Bm w' o B := by
  cases o with
  | none => exact h
  | some m => exact MapF.ext h hx (hs m rfl)
theorem Bm.ext0 {w w' : World} {o : Option Nat} {B : Nat → Bool} (h : Bm w o B) (hx : Ext [] w w') : Bm w' o B := h.ext hx fun _ _ => by simp
theorem bmF_zero : bmF (fun _ => false) = fun _ => none := by
  funext k
  unfold bmF
  rw [show anyB (pgB (fun _ => false) k) = false from anyB_no.2 fun j hj => by rw [pgB_at hj]]
  rfl
theorem Bm.zero {B : Nat → Bool} (h : ∀ g, B g = false) : B = fun _ => false := funext h
theorem look_spec {w : World} {o : Option Nat} {B : Nat → Bool} (h : Bm w o B) (k : Nat) : (Instr.lookup 48 (.map o) (.int .u64 (k : Int)) false).run Try.prog w = .ok (.agg (tsC (pgB B k)).toArray) w := by
  cases o with
  | none =>
    have := run_lookN (kf := pgf) Try.underlying48 pgKey setZ k false w
    simp only [Bool.false_eq_true, if_false, pgf] at this
    rw [this, Bm.zero h, show pgB (fun _ => false) k = fun _ => false from by funext j; unfold pgB; rw [Bool.and_false]]
    rfl
  | some m =>
    have := run_lookM Try.underlying48 pgKey setZ h k false
    simp only [Bool.false_eq_true, if_false, pgf, bmF_get] at this
    exact this
theorem clone_spec {w : World} {o : Option Nat} {B : Nat → Bool} (h : Bm w o B) {K : Value → World → Prop} (hK : ∀ o' w', Bm w' o' B → (∀ m, o' = some m → w.heap.size ≤ m) → Ext [] w w' → K (.map o') w') :
    callsK Try.prog 61 #[.map o] w K := by
  apply F61_ok
  unfold F61
  cases o with
  | none =>
    simp (disch := first | assumption | omega | (simp only [szR, tgC_len, tgC_all, tsC_len, tsC_all] <;> omega) | rfl | decide) only [gen0, gen1, gen2, rulesM, litR, bolR, Nat.reduceAdd, Nat.reduceLeDiff, numR, memR, valR, heapR, updR, intR, decR, extR, slR, segR, thenR, pnR, Int.reduceToNat, Int.reduceAdd, Int.reduceSub, Int.reduceLT, Int.reduceLE, Nat.reduceSub, Nat.reduceMul, Nat.reduceEqDiff, joinBR, Option.isNone_none]
    exact hK none w h nofun Ext.refl
  | some m =>
    have h1 : ∀ w, (Instr.makeInterface 48 (.map (some m))).run Try.prog w = .ok (.iface 48 (.map (some m))) w := fun w => by simp [Instr.makeInterface]
    have h2 : ∀ (r : Nat) (w : World), (Instr.typeAssert (.iface 48 (.map (some r))) 20 48 false).run Try.prog w = .ok (.map (some r)) w := fun r w => by
      simp [Instr.typeAssert, run_underlying Try.underlying48]
    simp (disch := first | assumption | omega | (simp only [szR, tgC_len, tgC_all, tsC_len, tsC_all] <;> omega) | rfl | decide) only [gen0, gen1, gen2, rulesM, litR, bolR, Nat.reduceAdd, Nat.reduceLeDiff, numR, memR, valR, heapR, updR, intR, decR, extR, slR, segR, thenR, pnR, Int.reduceToNat, Int.reduceAdd, Int.reduceSub, Int.reduceLT, Int.reduceLE, Nat.reduceSub, Nat.reduceMul, Nat.reduceEqDiff, joinBR, Option.isNone_some, h1]
    have h3 : ∀ (w : World) (K : Value → World → Prop), kN Try.prog (callN (.func (.func 82) #[] #[]) #[.iface 48 (.map (some m))]) w K = resV K ((Extern.MapsClone.clone #[.iface 48 (.map (some m))]).run Try.prog w) := by
      intro w K
      have e := Fx.kN_call (P := Try.prog) (f := 82) (first := #[]) (cap := #[]) (args := #[.iface 48 (.map (some m))]) (w := w) (K := K)
      refine e.trans ?_
      have e2 := run_callFunc_extern Try.func82 (by kernel_rfl) (by kernel_rfl) (by kernel_rfl) (e := Extern.MapsClone.clone) (by kernel_rfl) #[.iface 48 (.map (some m))] w
      have e3 : (#[] ++ #[Value.iface 48 (.map (some m))] ++ #[] : Array Value) = #[.iface 48 (.map (some m))] := rfl
      rw [e3, e2]
      generalize (Extern.MapsClone.clone #[.iface 48 (.map (some m))]).run Try.prog w = r
      cases r <;> rfl
    rw [h3]
    refine run_cloneM h fun w' h4 h5 => ?_
    simp (disch := first | assumption | omega | (simp only [szR, tgC_len, tgC_all, tsC_len, tsC_all] <;> omega) | rfl | decide) only [gen0, gen1, gen2, rulesM, litR, bolR, Nat.reduceAdd, Nat.reduceLeDiff, numR, memR, valR, heapR, updR, intR, decR, extR, slR, segR, thenR, pnR, Int.reduceToNat, Int.reduceAdd, Int.reduceSub, Int.reduceLT, Int.reduceLE, Nat.reduceSub, Nat.reduceMul, Nat.reduceEqDiff, h2]
    exact hK _ _ h4 (fun m' e => by cases e; exact Nat.le_refl _) h5
theorem has_spec {w : World} {o : Option Nat} {B : Nat → Bool} (h : Bm w o B) {a : Nat} (ha : a < 18446744073709551616) {K : Value → World → Prop} (hK : ∀ w', Ext [] w w' → K (.bool (B (a / 16))) w') :
    callsK Try.prog 20 #[.agg [.map o].toArray, .int .u64 (a : Int)] w K := by
  apply F20_ok
  unfold F20
  simp (disch := first | assumption | omega | (simp only [szR, tgC_len, tgC_all, tsC_len, tsC_all] <;> omega) | rfl | decide) only [gen0, gen1, gen2, rulesM, litR, bolR, Nat.reduceAdd, Nat.reduceLeDiff, numR, memR, valR, heapR, updR, intR, decR, extR, slR, segR, thenR, pnR, Int.reduceToNat, Int.reduceAdd, Int.reduceSub, Int.reduceLT, Int.reduceLE, Nat.reduceSub, Nat.reduceMul, Nat.reduceEqDiff]
  refine number_still ha ?_
  have hx : Ext [] w (w.alloc (.cells [.map o].toArray 50)).drew := by (repeat first | assumption | exact Ext.refl | apply Ext.alloc | apply Ext.drew | (refine Ext.updN ?_ ?_; (focus first | omega | (simp only [szR] <;> omega))) | (refine Ext.updI ?_ ?_; (focus (simp; done))))
  have hl := look_spec (h.ext0 hx) (a / 4096)
  have e1 : (a : Int).tmod 4096 = ((a % 4096 : Nat) : Int) := by rw [Int.tmod_eq_emod_of_nonneg (by omega)]; rfl
  have e2 : ((a % 4096 : Nat) : Int).tdiv 16 = ((a % 4096 / 16 : Nat) : Int) := by rw [Int.tdiv_eq_ediv_of_nonneg (by omega)]; rfl
  simp (disch := first | assumption | omega | (simp only [szR, tgC_len, tgC_all, tsC_len, tsC_all] <;> omega) | rfl | decide) only [gen0, gen1, gen2, rulesM, litR, bolR, Nat.reduceAdd, Nat.reduceLeDiff, numR, memR, valR, heapR, updR, intR, decR, extR, slR, segR, thenR, pnR, Int.reduceToNat, Int.reduceAdd, Int.reduceSub, Int.reduceLT, Int.reduceLE, Nat.reduceSub, Nat.reduceMul, Nat.reduceEqDiff, hl, e1, e2]
  refine Get_spec (ofB_ok _) fun w' hx2 => ?_
  rw [show ((a : Int) % 4096 / 16).toNat = a % 4096 / 16 by omega, bit_ofB, pgB_at (by omega), decide_eq_true (by omega), Bool.true_and, show 256 * (a / 4096) + a % 4096 / 16 = a / 16 by omega]
  exact hK _ (hx.trans hx2 (by simp))
theorem count_spec {w : World} {o : Option Nat} {B : Nat → Bool} (h : Bm w o B) {N : Nat} (hN : ∀ g, 256 * N ≤ g → B g = false) (hN2 : 256 * N < 9223372036854775808) {K : Value → World → Prop} (hK : ∀ w', Ext [] w w' → K (.int .i64 (cnt B (256 * N) : Nat)) w') :
    callsK Try.prog 21 #[.agg [.map o].toArray] w K := by
  apply F21_ok
  unfold F21
  have hx : Ext [] w (w.alloc (.cells [.map o].toArray 50)) := by (repeat first | assumption | exact Ext.refl | apply Ext.alloc | apply Ext.drew | (refine Ext.updN ?_ ?_; (focus first | omega | (simp only [szR] <;> omega))) | (refine Ext.updI ?_ ?_; (focus (simp; done))))
  simp (disch := first | assumption | omega | (simp only [szR, tgC_len, tgC_all, tsC_len, tsC_all] <;> omega) | rfl | decide) only [gen0, gen1, gen2, rulesM, litR, bolR, Nat.reduceAdd, Nat.reduceLeDiff, numR, memR, valR, heapR, updR, intR, decR, extR, slR, segR, thenR, pnR, Int.reduceToNat, Int.reduceAdd, Int.reduceSub, Int.reduceLT, Int.reduceLE, Nat.reduceSub, Nat.reduceMul, Nat.reduceEqDiff]
  cases o with
  | none =>
    rw [run_rangeN Try.underlying48]
    simp (disch := first | assumption | omega | (simp only [szR, tgC_len, tgC_all, tsC_len, tsC_all] <;> omega) | rfl | decide) only [gen0, gen1, gen2, rulesM, litR, bolR, Nat.reduceAdd, Nat.reduceLeDiff, numR, memR, valR, heapR, updR, intR, decR, extR, slR, segR, thenR, pnR, Int.reduceToNat, Int.reduceAdd, Int.reduceSub, Int.reduceLT, Int.reduceLE, Nat.reduceSub, Nat.reduceMul, Nat.reduceEqDiff]
    refine loopT.intro (fun st w' => st = [.int .i64 0] ∧ w'.heap[w.heap.size + 1]? = some (.mapIter none 0 #[] 0) ∧ Ext [] w w') (fun _ _ => 0) ⟨rfl, ?_, ?_⟩ ?_
    · have := alloc_at (w := w.alloc (.cells [.map none].toArray 50)) (o := .mapIter none 0 #[] 0) rfl
      rwa [show (w.alloc (.cells [.map none].toArray 50)).heap.size = w.heap.size + 1 from by simp only [szR]] at this
    · exact hx.allocI
    · rintro st w' ⟨rfl, h1, h2⟩ _
      have hc : cnt B (256 * N) = 0 := cnt_none _ fun i _ => h i
      rw [hc] at hK
      simp (disch := first | assumption | omega | (simp only [szR, tgC_len, tgC_all, tsC_len, tsC_all] <;> omega) | rfl | decide) only [gen0, gen1, gen2, rulesM, litR, bolR, Nat.reduceAdd, Nat.reduceLeDiff, numR, memR, valR, heapR, updR, intR, decR, extR, slR, segR, thenR, pnR, Int.reduceToNat, Int.reduceAdd, Int.reduceSub, Int.reduceLT, Int.reduceLE, Nat.reduceSub, Nat.reduceMul, Nat.reduceEqDiff, run_nextN h1]
      exact hK _ h2
  | some m =>
    have hm : m < w.heap.size := MapF.lt h
    refine run_rangeM Try.underlying48 (h.ext0 hx) fun l w1 l1 l2 hI hx1 => ?_
    have hsz : (w.alloc (.cells [.map (some m)].toArray 50)).heap.size = w.heap.size + 1 := by simp only [szR]
    rw [hsz] at hI ⊢
    have hx2 := hx.trans hx1 (by simp)
    have htot : (l.map fun p => cnt p.2 256).sum = cnt B (256 * N) := by
      have hk : ∀ p ∈ l, p.1 < N := by
        intro p hp
        rcases Nat.lt_or_ge p.1 N with h | h
        · exact h
        · have h3 := l2 p.1
          have h4 : bmF B p.1 = none := by
            unfold bmF
            rw [show anyB (pgB B p.1) = false from anyB_no.2 fun j hj => by rw [pgB_at hj]; exact hN _ (by omega)]
            rfl
          rw [h4] at h3
          exact absurd (List.mem_map.2 ⟨p, hp, rfl⟩) (getM_none.1 h3)
      rw [sum_list (fun f => cnt f 256) N l l1 hk, cnt_pages]
      refine sumTo_congr N fun k _ => ?_
      rw [l2 k]
      have hp : cnt (pgB B k) 256 = cnt (fun j => B (256 * k + j)) 256 := cnt_congr 256 fun j hj => pgB_at hj
      rw [← hp]
      unfold bmF
      cases ha : anyB (pgB B k) with
      | true => rfl
      | false =>
        rw [pgB_none ha, cnt_none 256 fun _ _ => rfl]
        rfl
    have hle := cnt_le B (256 * N)
    refine loopT.intro (fun st w' => ∃ (s : Nat) (cur : Option (Nat × (Nat → Bool))) (rest : List (Nat × (Nat → Bool))), st = [.int .i64 (s : Nat)] ∧ s + (rest.map fun p => cnt p.2 256).sum = cnt B (256 * N) ∧ IterF w' (w.heap.size + 1) m pgf setf cur rest ∧ Ext [] w w')
      (fun _ w' => leftIt w' (w.heap.size + 1)) ⟨0, none, l, rfl, by rw [htot, Nat.zero_add], hI, hx2⟩ ?_
    rintro st w' ⟨s, cur, rest, rfl, hs, hI', hx'⟩ _
    refine kV_nextM hI' (fun h0 w2 hx3 => ?_) fun A p R w2 hr hI2 hx3 => ?_
    · subst h0
      simp (disch := first | assumption | omega | (simp only [szR, tgC_len, tgC_all, tsC_len, tsC_all] <;> omega) | rfl | decide) only [gen0, gen1, gen2, rulesM, litR, bolR, Nat.reduceAdd, Nat.reduceLeDiff, numR, memR, valR, heapR, updR, intR, decR, extR, slR, segR, thenR, pnR, Int.reduceToNat, Int.reduceAdd, Int.reduceSub, Int.reduceLT, Int.reduceLE, Nat.reduceSub, Nat.reduceMul, Nat.reduceEqDiff]
      simp only [List.map_nil, List.sum_nil, Nat.add_zero] at hs
      rw [hs]
      exact hK _ (hx'.trans hx3 (by simp))
    · have hx4 : Ext [] w w2 := hx'.trans hx3 (by simp)
      have hsum : s + cnt p.2 256 + ((A ++ R).map fun p => cnt p.2 256).sum = cnt B (256 * N) := by
        rw [← hs, hr]
        simp only [List.map_append, List.map_cons, List.sum_append, List.sum_cons]
        omega
      have hen := run_entryM (P := Try.prog) hI2
      have hsf : setf p.2 = .agg (tsC p.2).toArray := rfl
      simp (disch := first | assumption | omega | (simp only [szR, tgC_len, tgC_all, tsC_len, tsC_all] <;> omega) | rfl | decide) only [gen0, gen1, gen2, rulesM, litR, bolR, Nat.reduceAdd, Nat.reduceLeDiff, numR, memR, valR, heapR, updR, intR, decR, extR, slR, segR, thenR, pnR, Int.reduceToNat, Int.reduceAdd, Int.reduceSub, Int.reduceLT, Int.reduceLE, Nat.reduceSub, Nat.reduceMul, Nat.reduceEqDiff, hen, hsf]
      have hov : ∀ f : Nat → Bool, splice [.int .u64 0, .int .u64 0, .int .u64 0, .int .u64 0] 0 (tsC f) = tsC f := fun f => by rw [← tsC_zero]; exact tsC_over _ _
      have ho2 : ∀ f : Nat → Bool, tsC f ++ List.drop (tsC f).length [.int .u64 0, .int .u64 0, .int .u64 0, .int .u64 0] = tsC f := fun f => by rw [← tsC_zero]; exact tsC_over2 _ _
      simp (disch := first | assumption | omega | (simp only [szR, tgC_len, tgC_all, tsC_len, tsC_all] <;> omega) | rfl | decide) only [gen0, gen1, gen2, rulesM, litR, bolR, Nat.reduceAdd, Nat.reduceLeDiff, numR, memR, valR, heapR, updR, intR, decR, extR, slR, segR, thenR, pnR, Int.reduceToNat, Int.reduceAdd, Int.reduceSub, Int.reduceLT, Int.reduceLE, Nat.reduceSub, Nat.reduceMul, Nat.reduceEqDiff, hov, ho2, tsC_sub]
      have hx5 : Ext [] w2 (w2.alloc (.cells (tsC p.2).toArray 88)) := by (repeat first | assumption | exact Ext.refl | apply Ext.alloc | apply Ext.drew | (refine Ext.updN ?_ ?_; (focus first | omega | (simp only [szR] <;> omega))) | (refine Ext.updI ?_ ?_; (focus (simp; done))))
      refine SetCount_spec fun w3 hx6 => ?_
      have hx7 := hx5.trans hx6 (by simp)
      have hx8 : Ext [] w w3 := hx4.trans hx7 (by simp)
      have hI3 := hI2.ext hx7 (by simp) (by simp)
      have hc := cnt_le p.2 256
      have e1 : ((s : Nat) : Int) + ((cnt p.2 256 : Nat) : Int) = ((s + cnt p.2 256 : Nat) : Int) := rfl
      have hlt : s + cnt p.2 256 ≤ cnt B (256 * N) := by omega
      simp (disch := first | assumption | omega | (simp only [szR, tgC_len, tgC_all, tsC_len, tsC_all] <;> omega) | rfl | decide) only [gen0, gen1, gen2, rulesM, litR, bolR, Nat.reduceAdd, Nat.reduceLeDiff, numR, memR, valR, heapR, updR, intR, decR, extR, slR, segR, thenR, pnR, Int.reduceToNat, Int.reduceAdd, Int.reduceSub, Int.reduceLT, Int.reduceLE, Nat.reduceSub, Nat.reduceMul, Nat.reduceEqDiff, e1]
      refine ⟨⟨s + cnt p.2 256, some p, A ++ R, rfl, hsum, hI3, hx8⟩, ?_⟩
      rw [hI3.left, hI'.left, hr]
      simp
end Go.Proofs.Ytgnibcaflidjmaa
