/- What the cache of lines (tlb) does, call by call; conditions: those of each theorem. -/
import Derived.Test.YtbigiabcgplkgaaFU
import Derived.Test.YtbigiabcgplkgaaRU
import Derived.Test.YtbigiabcgplkgaaMark
namespace Go.Proofs.Ytbigiabcgplkgaa
open Go.Fx
set_option maxRecDepth 100000
set_option linter.unusedSimpArgs false
set_option linter.unusedVariables false
/-- a line: whose, its number, where. -/
structure Ln where
  a : Int
  n : Int
  f : Nat → Bool
  m : Int
  x : Int
def Ln.zero : Ln := ⟨0, 0, fun _ => false, 0, 0⟩
def lnC (l : Ln) : List Value := [.int .u64 l.a, .int .u64 l.n, .bool (l.f 0), .bool (l.f 1), .bool (l.f 2), .bool (l.f 3), .bool (l.f 4), .bool (l.f 5), .bool (l.f 6), .bool (l.f 7), .bool (l.f 8), .bool (l.f 9), .bool (l.f 10), .bool (l.f 11), .int .u64 l.m, .int .u64 l.x]
theorem lnC_len (l : Ln) : (lnC l).length = 16 := rfl
theorem lnC_sub (l : Ln) : sub (lnC l) 0 16 = lnC l := rfl
theorem lnC_one (l : Ln) : (lnC l).all (fun v => v.oneCell') = true := rfl
theorem lnC_put (l : Ln) : splice [.int .u64 0, .int .u64 0, .bool false, .bool false, .bool false, .bool false, .bool false, .bool false, .bool false, .bool false, .bool false, .bool false, .bool false, .bool false, .int .u64 0, .int .u64 0] 0 (lnC l) = lnC l := rfl
theorem lnC_over (l r : Ln) : splice (lnC l) 0 (lnC r) = lnC r := rfl
def setC : List Ln → List Value
  | [] => lnC Ln.zero ++ (lnC Ln.zero ++ [.int .i64 0])
  | [x] => lnC x ++ (lnC Ln.zero ++ [.int .i64 1])
  | x :: y :: _ => lnC x ++ (lnC y ++ [.int .i64 2])
theorem setC_length (s : List Ln) : (setC s).length = 33 := by
  match s with
  | [] => rfl
  | [x] => rfl
  | x :: y :: _ => rfl
theorem take_spec {w : World} {b : Nat} {A B : List Value} {E : TypeId} {s : List Ln} {k : Nat} (hb : w.heap[b]? = some (.cells (seg A (setC s) B).toArray E (0, 0))) (hk : k < s.length) (hs : s.length ≤ 2) {K : Value → World → Prop}
    (hK : ∀ w', w'.heap[b]? = some (.cells (seg A (setC (s.eraseIdx k)) B).toArray E (0, 0)) → Ext [b] w w' → K (.tuple #[]) w') :
    callsK Try.prog 93 #[.pointer (some ⟨b, A.length, none⟩), .int .i64 k] w K := by
  apply F93_ok
  unfold F93
  match s, k, hk, hs with
  | [x], 0, _, _ =>
    simp only [setC, lnC, Ln.zero] at hb
    simp (disch := first | assumption | omega | (simp only [szR] <;> omega) | rfl | decide) only [gen0, gen1, gen2, rulesU, litR, bolR, Nat.reduceAdd, Nat.reduceLeDiff, numR, memR, valR, heapR, updR, intR, decR, extR, slR, segR, thenR, pnR, Int.reduceToNat, Int.reduceAdd, Int.reduceSub, Int.reduceLT, Int.reduceLE, Nat.reduceSub, Nat.reduceMul, Nat.reduceEqDiff, joinR, hb]
    apply hK
    · simp (disch := first | assumption | omega | (simp only [szR] <;> omega) | rfl | decide) only [gen0, gen1, gen2, rulesU, litR, bolR, Nat.reduceAdd, Nat.reduceLeDiff, numR, memR, valR, heapR, updR, intR, decR, extR, slR, segR, thenR, pnR, Int.reduceToNat, Int.reduceAdd, Int.reduceSub, Int.reduceLT, Int.reduceLE, Nat.reduceSub, Nat.reduceMul, Nat.reduceEqDiff, hb]
      rfl
    · (repeat first | assumption | exact Ext.refl | apply Ext.alloc | apply Ext.drew | (refine Ext.updN ?_ ?_; (focus first | omega | (simp only [szR] <;> omega))) | (refine Ext.updI ?_ ?_; (focus (simp; done))))
  | [x, y], 0, _, _ =>
    simp only [setC, lnC, Ln.zero] at hb
    simp (disch := first | assumption | omega | (simp only [szR] <;> omega) | rfl | decide) only [gen0, gen1, gen2, rulesU, litR, bolR, Nat.reduceAdd, Nat.reduceLeDiff, numR, memR, valR, heapR, updR, intR, decR, extR, slR, segR, thenR, pnR, Int.reduceToNat, Int.reduceAdd, Int.reduceSub, Int.reduceLT, Int.reduceLE, Nat.reduceSub, Nat.reduceMul, Nat.reduceEqDiff, joinR, hb]
    apply hK
    · simp (disch := first | assumption | omega | (simp only [szR] <;> omega) | rfl | decide) only [gen0, gen1, gen2, rulesU, litR, bolR, Nat.reduceAdd, Nat.reduceLeDiff, numR, memR, valR, heapR, updR, intR, decR, extR, slR, segR, thenR, pnR, Int.reduceToNat, Int.reduceAdd, Int.reduceSub, Int.reduceLT, Int.reduceLE, Nat.reduceSub, Nat.reduceMul, Nat.reduceEqDiff, hb]
      rfl
    · (repeat first | assumption | exact Ext.refl | apply Ext.alloc | apply Ext.drew | (refine Ext.updN ?_ ?_; (focus first | omega | (simp only [szR] <;> omega))) | (refine Ext.updI ?_ ?_; (focus (simp; done))))
  | [x, y], 1, _, _ =>
    simp only [setC, lnC, Ln.zero] at hb
    simp (disch := first | assumption | omega | (simp only [szR] <;> omega) | rfl | decide) only [gen0, gen1, gen2, rulesU, litR, bolR, Nat.reduceAdd, Nat.reduceLeDiff, numR, memR, valR, heapR, updR, intR, decR, extR, slR, segR, thenR, pnR, Int.reduceToNat, Int.reduceAdd, Int.reduceSub, Int.reduceLT, Int.reduceLE, Nat.reduceSub, Nat.reduceMul, Nat.reduceEqDiff, joinR, hb]
    apply hK
    · simp (disch := first | assumption | omega | (simp only [szR] <;> omega) | rfl | decide) only [gen0, gen1, gen2, rulesU, litR, bolR, Nat.reduceAdd, Nat.reduceLeDiff, numR, memR, valR, heapR, updR, intR, decR, extR, slR, segR, thenR, pnR, Int.reduceToNat, Int.reduceAdd, Int.reduceSub, Int.reduceLT, Int.reduceLE, Nat.reduceSub, Nat.reduceMul, Nat.reduceEqDiff, hb]
      rfl
    · (repeat first | assumption | exact Ext.refl | apply Ext.alloc | apply Ext.drew | (refine Ext.updN ?_ ?_; (focus first | omega | (simp only [szR] <;> omega))) | (refine Ext.updI ?_ ?_; (focus (simp; done))))
theorem setC_sub {s : List Ln} {k o : Nat} {x : Ln} (hs : s.length ≤ 2) (hg : s[k]? = some x) (ho : o = k * 16) : sub (setC s) o 16 = lnC x := by
  subst ho
  match s, k, hg, hs with
  | [y], 0, hg, _ => simp at hg; rw [← hg]; rfl
  | [y, z], 0, hg, _ => simp at hg; rw [← hg]; rfl
  | [y, z], 1, hg, _ => simp at hg; rw [← hg]; rfl
/-- a line's closure: what it tells of each line, in every world that has what w has but for block b. -/
def Tells (f : Value) (p : Ln → Bool) (b : Nat) (w : World) : Prop :=
  ∀ (l : Ln) (w' : World) (K : Value → World → Prop), Ext [b] w w' → (∀ w'', Ext [] w' w'' → K (.bool (p l)) w'') → kN Try.prog (callN f #[.agg (lnC l).toArray]) w' K
theorem Tells.mono {f : Value} {p : Ln → Bool} {b : Nat} {w w' : World} (h : Tells f p b w) (he : Ext [b] w w') : Tells f p b w' :=
  fun l w2 K h2 hK => h l w2 K (he.trans h2 (fun k hk => .inl hk)) hK
theorem drop_spec {w : World} {b : Nat} {A B : List Value} {E : TypeId} {s : List Ln} {f : Value} {p : Ln → Bool} (hb : w.heap[b]? = some (.cells (seg A (setC s) B).toArray E (0, 0))) (hs : s.length ≤ 2) (hf : Tells f p b w) {K : Value → World → Prop}
    (hK : ∀ w', w'.heap[b]? = some (.cells (seg A (setC (s.filter (fun l => !p l))) B).toArray E (0, 0)) → Ext [b] w w' → K (.tuple #[]) w') :
    callsK Try.prog 83 #[.pointer (some ⟨b, A.length, none⟩), f] w K := by
  apply F83_ok
  unfold F83
  have hc : (setC s)[32]? = some (.int .i64 s.length) := by
    match s, hs with
    | [], _ => rfl
    | [x], _ => rfl
    | [x, y], _ => rfl
  have hl := setC_length s
  simp (disch := first | assumption | omega | (simp only [szR] <;> omega) | rfl | decide) only [gen0, gen1, gen2, rulesU, litR, bolR, Nat.reduceAdd, Nat.reduceLeDiff, numR, memR, valR, heapR, updR, intR, decR, extR, slR, segR, thenR, pnR, Int.reduceToNat, Int.reduceAdd, Int.reduceSub, Int.reduceLT, Int.reduceLE, Nat.reduceSub, Nat.reduceMul, Nat.reduceEqDiff, hb, hc]
  refine loopT.intro (fun st w' => ∃ (k : Nat) (z : Int), k ≤ s.length ∧ st = [.int .i64 z] ∧ z = (k : Int) - 1 ∧ w'.heap[b]? = some (.cells (seg A (setC (s.take k ++ (s.drop k).filter (fun l => !p l))) B).toArray E (0, 0)) ∧ Ext [b] w w')
    (fun st _ => match st with
      | [.int _ n] => (n + 1).toNat
      | _ => 0) ⟨s.length, _, Nat.le_refl _, rfl, rfl, ?_, ?_⟩ ?_
  · simpa using hb
  · (repeat first | assumption | exact Ext.refl | apply Ext.alloc | apply Ext.drew | (refine Ext.updN ?_ ?_; (focus first | omega | (simp only [szR] <;> omega))) | (refine Ext.updI ?_ ?_; (focus (simp; done))))
  · rintro st w' ⟨k, z, hk, rfl, hz, hb', hx⟩ _
    cases k with
    | zero =>
      obtain rfl : z = -1 := by omega
      simp (disch := first | assumption | omega | (simp only [szR] <;> omega) | rfl | decide) only [gen0, gen1, gen2, rulesU, litR, bolR, Nat.reduceAdd, Nat.reduceLeDiff, numR, memR, valR, heapR, updR, intR, decR, extR, slR, segR, thenR, pnR, Int.reduceToNat, Int.reduceAdd, Int.reduceSub, Int.reduceLT, Int.reduceLE, Nat.reduceSub, Nat.reduceMul, Nat.reduceEqDiff]
      exact hK w' (by simpa using hb') hx
    | succ k =>
      have hl : ∀ r : List Ln, (s.take (k + 1) ++ r)[k]? = s[k]? := fun r => by rw [List.getElem?_append_left (by simp; omega), List.getElem?_take_of_lt (by omega)]
      have hd : s.drop k = s[k] :: s.drop (k + 1) := List.drop_eq_getElem_cons (by omega)
      generalize hcur : s.take (k + 1) ++ (s.drop (k + 1)).filter (fun l => !p l) = cur at hb'
      have hlen : k < cur.length ∧ cur.length ≤ 2 := by
        have := List.length_filter_le (fun l => !p l) (s.drop (k + 1))
        rw [← hcur]; simp at this ⊢; omega
      have hg : cur[k]? = some s[k] := by rw [← hcur, hl]; simp
      have hcl : ∀ o, o = k * 16 → sub (setC cur) o 16 = lnC s[k] := fun o ho => setC_sub hlen.2 hg ho
      have hsl := setC_length cur
      obtain rfl : z = (k : Int) := by omega
      simp (disch := first | assumption | omega | (simp only [szR] <;> omega) | rfl | decide) only [gen0, gen1, gen2, rulesU, litR, bolR, Nat.reduceAdd, Nat.reduceLeDiff, numR, memR, valR, heapR, updR, intR, decR, extR, slR, segR, thenR, pnR, Int.reduceToNat, Int.reduceAdd, Int.reduceSub, Int.reduceLT, Int.reduceLE, Nat.reduceSub, Nat.reduceMul, Nat.reduceEqDiff, hb', hcl]
      refine joinL.intro fun J hJ => ?_
      have hrest : ∀ w2, w2.heap[b]? = some (.cells (seg A (setC (s.take k ++ (s.drop k).filter (fun l => !p l))) B).toArray E (0, 0)) → Ext [b] w w2 → J [] w2 := by
        intro w2 hb2 hx2
        apply hJ
        intro _
        simp (disch := first | assumption | omega | (simp only [szR] <;> omega) | rfl | decide) only [gen0, gen1, gen2, rulesU, litR, bolR, Nat.reduceAdd, Nat.reduceLeDiff, numR, memR, valR, heapR, updR, intR, decR, extR, slR, segR, thenR, pnR, Int.reduceToNat, Int.reduceAdd, Int.reduceSub, Int.reduceLT, Int.reduceLE, Nat.reduceSub, Nat.reduceMul, Nat.reduceEqDiff]
        exact ⟨⟨k, _, by omega, rfl, rfl, hb2, hx2⟩, by simp⟩
      simp (disch := first | assumption | omega | (simp only [szR] <;> omega) | rfl | decide) only [gen0, gen1, gen2, rulesU, litR, bolR, Nat.reduceAdd, Nat.reduceLeDiff, numR, memR, valR, heapR, updR, intR, decR, extR, slR, segR, thenR, pnR, Int.reduceToNat, Int.reduceAdd, Int.reduceSub, Int.reduceLT, Int.reduceLE, Nat.reduceSub, Nat.reduceMul, Nat.reduceEqDiff, hb', hcl]
      apply hf s[k] w' _ hx
      intro w2 hx2
      have hb2 := hx2.at hb' (by simp)
      cases hp : p s[k] with
      | true =>
        simp (disch := first | assumption | omega | (simp only [szR] <;> omega) | rfl | decide) only [gen0, gen1, gen2, rulesU, litR, bolR, Nat.reduceAdd, Nat.reduceLeDiff, numR, memR, valR, heapR, updR, intR, decR, extR, slR, segR, thenR, pnR, Int.reduceToNat, Int.reduceAdd, Int.reduceSub, Int.reduceLT, Int.reduceLE, Nat.reduceSub, Nat.reduceMul, Nat.reduceEqDiff]
        apply take_spec hb2 hlen.1 hlen.2
        intro w3 hb3 hx3
        apply hrest w3 _ ((hx.trans hx2 (by simp)).trans hx3 (by simp))
        rw [hb3, ← hcur, hd, List.filter_cons]
        simp only [hp, Bool.not_true, Bool.false_eq_true, if_false]
        rw [List.eraseIdx_append_of_lt_length (by simp; omega)]
        have he : (s.take (k + 1)).eraseIdx k = s.take k := by
          rw [List.take_succ_eq_append_getElem (by omega), List.eraseIdx_append_of_length_le (by simp; omega)]
          simp [Nat.min_eq_left (show k ≤ s.length by omega)]
        rw [he]
      | false =>
        simp (disch := first | assumption | omega | (simp only [szR] <;> omega) | rfl | decide) only [gen0, gen1, gen2, rulesU, litR, bolR, Nat.reduceAdd, Nat.reduceLeDiff, numR, memR, valR, heapR, updR, intR, decR, extR, slR, segR, thenR, pnR, Int.reduceToNat, Int.reduceAdd, Int.reduceSub, Int.reduceLT, Int.reduceLE, Nat.reduceSub, Nat.reduceMul, Nat.reduceEqDiff]
        apply hrest w2 _ (hx.trans hx2 (by simp))
        rw [hb2, ← hcur, hd, List.filter_cons]
        simp only [hp, Bool.not_false, if_true]
        rw [List.take_succ_eq_append_getElem (by omega), List.append_assoc]
        rfl
/-! ### the closures -/
theorem page1_spec {w : World} {p q : Nat} {a n : Int} {l : Ln} {E E' : TypeId} (h1 : w.heap[p]? = some (.cells [.int .u64 a].toArray E (0, 0))) (h2 : w.heap[q]? = some (.cells [.int .u64 n].toArray E' (0, 0))) {K : Value → World → Prop}
    (hK : ∀ w', Ext [] w w' → K (.bool (l.a == a && l.n == n)) w') : callsK Try.prog 96 #[.agg (lnC l).toArray, .pointer (some ⟨p, 0, none⟩), .pointer (some ⟨q, 0, none⟩)] w K := by
  have l1 := lt_of_at h1
  have l2 := lt_of_at h2
  apply F96_ok
  unfold F96
  simp only [lnC]
  by_cases ha : l.a = a
  · by_cases hn : l.n = n
    · simp (disch := first | assumption | omega | (simp only [szR] <;> omega) | rfl | decide) only [gen0, gen1, gen2, rulesU, litR, bolR, Nat.reduceAdd, Nat.reduceLeDiff, numR, memR, valR, heapR, updR, intR, decR, extR, slR, segR, thenR, pnR, Int.reduceToNat, Int.reduceAdd, Int.reduceSub, Int.reduceLT, Int.reduceLE, Nat.reduceSub, Nat.reduceMul, Nat.reduceEqDiff, joinR, h1, h2]
      have e : (l.a == a && l.n == n) = true := by simp [ha, hn]
      rw [e] at hK
      exact hK _ (by (repeat first | assumption | exact Ext.refl | apply Ext.alloc | apply Ext.drew | (refine Ext.updN ?_ ?_; (focus first | omega | (simp only [szR] <;> omega))) | (refine Ext.updI ?_ ?_; (focus (simp; done)))))
    · simp (disch := first | assumption | omega | (simp only [szR] <;> omega) | rfl | decide) only [gen0, gen1, gen2, rulesU, litR, bolR, Nat.reduceAdd, Nat.reduceLeDiff, numR, memR, valR, heapR, updR, intR, decR, extR, slR, segR, thenR, pnR, Int.reduceToNat, Int.reduceAdd, Int.reduceSub, Int.reduceLT, Int.reduceLE, Nat.reduceSub, Nat.reduceMul, Nat.reduceEqDiff, joinR, h1, h2]
      have e : (l.a == a && l.n == n) = false := by simp [ha, hn]
      rw [e] at hK
      exact hK _ (by (repeat first | assumption | exact Ext.refl | apply Ext.alloc | apply Ext.drew | (refine Ext.updN ?_ ?_; (focus first | omega | (simp only [szR] <;> omega))) | (refine Ext.updI ?_ ?_; (focus (simp; done)))))
  · simp (disch := first | assumption | omega | (simp only [szR] <;> omega) | rfl | decide) only [gen0, gen1, gen2, rulesU, litR, bolR, Nat.reduceAdd, Nat.reduceLeDiff, numR, memR, valR, heapR, updR, intR, decR, extR, slR, segR, thenR, pnR, Int.reduceToNat, Int.reduceAdd, Int.reduceSub, Int.reduceLT, Int.reduceLE, Nat.reduceSub, Nat.reduceMul, Nat.reduceEqDiff, joinR, h1, h2]
    have e : (l.a == a && l.n == n) = false := by simp [ha]
    rw [e] at hK
    exact hK _ (by (repeat first | assumption | exact Ext.refl | apply Ext.alloc | apply Ext.drew | (refine Ext.updN ?_ ?_; (focus first | omega | (simp only [szR] <;> omega))) | (refine Ext.updI ?_ ?_; (focus (simp; done)))))
theorem page_spec {w : World} {b : Nat} {a n : Int} {o : Obj} (hb : w.heap[b]? = some o) {K : Value → World → Prop}
    (hK : ∀ f w', Tells f (fun l => l.a == a && l.n == n) b w' → w'.heap[b]? = some o → Ext [] w w' → K f w') :
    callsK Try.prog 84 #[.int .u64 a, .int .u64 n] w K := by
  have hlt := lt_of_at hb
  apply F84_ok
  unfold F84
  simp (disch := first | assumption | omega | (simp only [szR] <;> omega) | rfl | decide) only [gen0, gen1, gen2, rulesU, litR, bolR, Nat.reduceAdd, Nat.reduceLeDiff, numR, memR, valR, heapR, updR, intR, decR, extR, slR, segR, thenR, pnR, Int.reduceToNat, Int.reduceAdd, Int.reduceSub, Int.reduceLT, Int.reduceLE, Nat.reduceSub, Nat.reduceMul, Nat.reduceEqDiff]
  apply hK
  · intro l w' K hx hK
    have h1 := hx.kept w.heap.size (by simp only [szR]; omega) (by simp; omega)
    have h2 := hx.kept (w.heap.size + 1) (by simp only [szR]; omega) (by simp; omega)
    simp (disch := first | assumption | omega | (simp only [szR] <;> omega) | rfl | decide) only [heapR, valR, updR] at h1 h2
    simp (disch := first | assumption | omega | (simp only [szR] <;> omega) | rfl | decide) only [gen0, gen1, gen2, rulesU, litR, bolR, Nat.reduceAdd, Nat.reduceLeDiff, numR, memR, valR, heapR, updR, intR, decR, extR, slR, segR, thenR, pnR, Int.reduceToNat, Int.reduceAdd, Int.reduceSub, Int.reduceLT, Int.reduceLE, Nat.reduceSub, Nat.reduceMul, Nat.reduceEqDiff, h1, h2]
    exact page1_spec h1 h2 hK
  · simp (disch := first | assumption | omega | (simp only [szR] <;> omega) | rfl | decide) only [gen0, gen1, gen2, rulesU, litR, bolR, Nat.reduceAdd, Nat.reduceLeDiff, numR, memR, valR, heapR, updR, intR, decR, extR, slR, segR, thenR, pnR, Int.reduceToNat, Int.reduceAdd, Int.reduceSub, Int.reduceLT, Int.reduceLE, Nat.reduceSub, Nat.reduceMul, Nat.reduceEqDiff, hb]
  · (repeat first | assumption | exact Ext.refl | apply Ext.alloc | apply Ext.drew | (refine Ext.updN ?_ ?_; (focus first | omega | (simp only [szR] <;> omega))) | (refine Ext.updI ?_ ?_; (focus (simp; done))))
theorem flush1_spec {w : World} {p : Nat} {a : Int} {l : Ln} {E : TypeId} (h1 : w.heap[p]? = some (.cells [.int .u64 a].toArray E (0, 0))) {K : Value → World → Prop}
    (hK : ∀ w', Ext [] w w' → K (.bool (l.a == a)) w') : callsK Try.prog 75 #[.agg (lnC l).toArray, .pointer (some ⟨p, 0, none⟩)] w K := by
  have l1 := lt_of_at h1
  apply F75_ok
  unfold F75
  simp only [lnC]
  simp (disch := first | assumption | omega | (simp only [szR] <;> omega) | rfl | decide) only [gen0, gen1, gen2, rulesU, litR, bolR, Nat.reduceAdd, Nat.reduceLeDiff, numR, memR, valR, heapR, updR, intR, decR, extR, slR, segR, thenR, pnR, Int.reduceToNat, Int.reduceAdd, Int.reduceSub, Int.reduceLT, Int.reduceLE, Nat.reduceSub, Nat.reduceMul, Nat.reduceEqDiff, joinR, h1]
  exact hK (w.alloc (.cells (lnC l).toArray 66)) (by (repeat first | assumption | exact Ext.refl | apply Ext.alloc | apply Ext.drew | (refine Ext.updN ?_ ?_; (focus first | omega | (simp only [szR] <;> omega))) | (refine Ext.updI ?_ ?_; (focus (simp; done)))))
theorem clear1_spec {w : World} {l : Ln} {K : Value → World → Prop} (hK : ∀ w', Ext [] w w' → K (.bool true) w') : callsK Try.prog 85 #[.agg (lnC l).toArray] w K := by
  apply F85_ok
  unfold F85
  simp (disch := first | assumption | omega | (simp only [szR] <;> omega) | rfl | decide) only [gen0, gen1, gen2, rulesU, litR, bolR, Nat.reduceAdd, Nat.reduceLeDiff, numR, memR, valR, heapR, updR, intR, decR, extR, slR, segR, thenR, pnR, Int.reduceToNat, Int.reduceAdd, Int.reduceSub, Int.reduceLT, Int.reduceLE, Nat.reduceSub, Nat.reduceMul, Nat.reduceEqDiff, joinR]
  exact hK _ (by (repeat first | assumption | exact Ext.refl | apply Ext.alloc | apply Ext.drew | (refine Ext.updN ?_ ?_; (focus first | omega | (simp only [szR] <;> omega))) | (refine Ext.updI ?_ ?_; (focus (simp; done)))))
/-! ### the whole -/
def tlbC (S : Nat → List Ln) : List Value := setC (S 0) ++ (setC (S 1) ++ (setC (S 2) ++ setC (S 3)))
def put4 (S : Nat → List Ln) (i : Nat) (s : List Ln) : Nat → List Ln := fun j => if j = i then s else S j
theorem tlb_seg (S : Nat → List Ln) (T : List Value) {i : Nat} (hi : i < 4) : ∃ A B : List Value, A.length = i * 33 ∧ tlbC S ++ T = seg A (setC (S i)) B ∧ ∀ s, tlbC (put4 S i s) ++ T = seg A (setC s) B := by
  match i, hi with
  | 0, _ => exact ⟨[], setC (S 1) ++ (setC (S 2) ++ setC (S 3)) ++ T, rfl, by simp [tlbC, seg], fun s => by simp [tlbC, seg, put4]⟩
  | 1, _ => exact ⟨setC (S 0), setC (S 2) ++ setC (S 3) ++ T, by rw [setC_length], by simp [tlbC, seg], fun s => by simp [tlbC, seg, put4]⟩
  | 2, _ => exact ⟨setC (S 0) ++ setC (S 1), setC (S 3) ++ T, by simp [setC_length], by simp [tlbC, seg], fun s => by simp [tlbC, seg, put4]⟩
  | 3, _ => exact ⟨setC (S 0) ++ (setC (S 1) ++ setC (S 2)), T, by simp [setC_length], by simp [tlbC, seg], fun s => by simp [tlbC, seg, put4]⟩
theorem of_spec {w : World} {b : Nat} {n : Int} (hn : 0 ≤ n ∧ n < 18446744073709551616) {K : Value → World → Prop} (hK : K (.pointer (some ⟨b, (n % 4).toNat * 33, none⟩)) w) :
    callsK Try.prog 82 #[.pointer (some ⟨b, 0, none⟩), .int .u64 n] w K := by
  apply F82_ok
  unfold F82
  simp (disch := first | assumption | omega | (simp only [szR] <;> omega) | rfl | decide) only [gen0, gen1, gen2, rulesU, litR, bolR, Nat.reduceAdd, Nat.reduceLeDiff, numR, memR, valR, heapR, updR, intR, decR, extR, slR, segR, thenR, pnR, Int.reduceToNat, Int.reduceAdd, Int.reduceSub, Int.reduceLT, Int.reduceLE, Nat.reduceSub, Nat.reduceMul, Nat.reduceEqDiff]
  exact hK
theorem tlb_length (S : Nat → List Ln) : (tlbC S).length = 132 := by simp [tlbC, setC_length]
/-- what is meant by a cache at a block. -/
def At (w : World) (b : Nat) (S : Nat → List Ln) (T : List Value) : Prop := ∃ E, w.heap[b]? = some (.cells (tlbC S ++ T).toArray E (0, 0))
theorem At.ext {w w' : World} {b : Nat} {S : Nat → List Ln} {T : List Value} {U : List Nat} (h : At w b S T) (hx : Ext U w w') (hb : b ∉ U) : At w' b S T := ⟨h.choose, hx.at h.choose_spec hb⟩
/-- each set has two lines at most. -/
def Two (S : Nat → List Ln) : Prop := ∀ i, (S i).length ≤ 2
theorem mod4 {n : Int} (hn : 0 ≤ n) : (n % 4).toNat < 4 := by omega
/-- a set's lines dropped, at any of the four sets. -/
theorem dropAt_spec {w : World} {b i : Nat} {S : Nat → List Ln} {T : List Value} {f : Value} {p : Ln → Bool} (hS : At w b S T) (h2 : Two S) (hi : i < 4) (hf : Tells f p b w) {K : Value → World → Prop}
    (hK : ∀ w', At w' b (put4 S i ((S i).filter (fun l => !p l))) T → Ext [b] w w' → K (.tuple #[]) w') : callsK Try.prog 83 #[.pointer (some ⟨b, i * 33, none⟩), f] w K := by
  obtain ⟨E, hb⟩ := hS
  obtain ⟨A, B, hA, h1, h3⟩ := tlb_seg S T hi
  rw [h1] at hb
  rw [← hA]
  refine drop_spec hb (h2 i) hf fun w' hb' hx => hK w' ⟨E, ?_⟩ hx
  rw [h3]; exact hb'
theorem Drop_spec {w : World} {b : Nat} {S : Nat → List Ln} {T : List Value} {a n : Int} (hS : At w b S T) (h2 : Two S) (hn : 0 ≤ n ∧ n < 18446744073709551616) {K : Value → World → Prop}
    (hK : ∀ w', At w' b (put4 S (n % 4).toNat ((S (n % 4).toNat).filter (fun l => !(l.a == a && l.n == n)))) T → Ext [b] w w' → K (.tuple #[]) w') :
    callsK Try.prog 37 #[.pointer (some ⟨b, 0, none⟩), .int .u64 a, .int .u64 n] w K := by
  apply F37_ok
  unfold F37
  simp (disch := first | assumption | omega | (simp only [szR] <;> omega) | rfl | decide) only [gen0, gen1, gen2, rulesU, litR, bolR, Nat.reduceAdd, Nat.reduceLeDiff, numR, memR, valR, heapR, updR, intR, decR, extR, slR, segR, thenR, pnR, Int.reduceToNat, Int.reduceAdd, Int.reduceSub, Int.reduceLT, Int.reduceLE, Nat.reduceSub, Nat.reduceMul, Nat.reduceEqDiff, Option.isNone_some]
  apply of_spec hn
  simp (disch := first | assumption | omega | (simp only [szR] <;> omega) | rfl | decide) only [gen0, gen1, gen2, rulesU, litR, bolR, Nat.reduceAdd, Nat.reduceLeDiff, numR, memR, valR, heapR, updR, intR, decR, extR, slR, segR, thenR, pnR, Int.reduceToNat, Int.reduceAdd, Int.reduceSub, Int.reduceLT, Int.reduceLE, Nat.reduceSub, Nat.reduceMul, Nat.reduceEqDiff]
  obtain ⟨E, hb⟩ := hS
  apply page_spec hb
  intro f w' hf hb' hx
  simp (disch := first | assumption | omega | (simp only [szR] <;> omega) | rfl | decide) only [gen0, gen1, gen2, rulesU, litR, bolR, Nat.reduceAdd, Nat.reduceLeDiff, numR, memR, valR, heapR, updR, intR, decR, extR, slR, segR, thenR, pnR, Int.reduceToNat, Int.reduceAdd, Int.reduceSub, Int.reduceLT, Int.reduceLE, Nat.reduceSub, Nat.reduceMul, Nat.reduceEqDiff]
  apply dropAt_spec ⟨E, hb'⟩ h2 (mod4 hn.1) hf
  intro w2 hS2 hx2
  exact hK w2 hS2 ((hx.mono (by simp)).trans hx2 (by simp))
/-- what 'Put' makes of a set. -/
def put2 (s : List Ln) (l : Ln) : List Ln := (if s.length = 2 then s.drop 1 else s) ++ [l]
def putS (S : Nat → List Ln) (l : Ln) : Nat → List Ln := put4 S (l.n % 4).toNat (put2 ((S (l.n % 4).toNat).filter (fun r => !(r.a == l.a && r.n == l.n))) l)
/-- a line set in where a set has room. -/
theorem add_spec {w : World} {b p : Nat} {A B : List Value} {E E' : TypeId} {s : List Ln} {l : Ln} (hb : w.heap[b]? = some (.cells (seg A (setC s) B).toArray E (0, 0))) (hp : w.heap[p]? = some (.cells (lnC l).toArray E' (0, 0))) (hs : s.length ≤ 1) {K : Value → World → Prop}
    (hK : ∀ w', w'.heap[b]? = some (.cells (seg A (setC (s ++ [l])) B).toArray E (0, 0)) → Ext [b] w w' → K (.tuple #[]) w') :
    drewK (fun w =>
      sN Try.prog (nilN (.pointer (some ⟨b, A.length, none⟩))) w fun v27 =>
      sV Try.prog (Instr.fieldAt 69 v27 1) w fun v28 =>
      sV Try.prog (Instr.loadAt 3 v28) w fun v29 =>
      sV Try.prog (Instr.loadAt 66 (.pointer (some ⟨p, 0, none⟩))) w fun v30 =>
      sN Try.prog (nilN (.pointer (some ⟨b, A.length, none⟩))) w fun v31 =>
      sV Try.prog (Instr.fieldAt 69 v31 0) w fun v32 =>
      kV Try.prog (Instr.indexAt 67 v32 v29) w fun v33 w =>
      kU Try.prog (Instr.storeAt 66 v33 v30) w fun _ w =>
      kN Try.prog (nilN (.pointer (some ⟨b, A.length, none⟩))) w fun v35 w =>
      kV Try.prog (Instr.fieldAt 69 v35 1) w fun v36 w =>
      kV Try.prog (Instr.loadAt 3 v36) w fun v37 w =>
      kV Try.prog (binV .add 3 (.tmp 37) (.const (.int .i64 1)) v37 (.int .i64 1)) w fun v38 w =>
      kN Try.prog (nilN (.pointer (some ⟨b, A.length, none⟩))) w fun v39 w =>
      kV Try.prog (Instr.fieldAt 69 v39 1) w fun v40 w =>
      kU Try.prog (Instr.storeAt 3 v40 v38) w fun _ w =>
      K (.tuple #[]) w) w := by
  match s, hs with
  | [], _ =>
    simp only [setC, lnC, Ln.zero] at hb hp
    simp (disch := first | assumption | omega | (simp only [szR] <;> omega) | rfl | decide) only [gen0, gen1, gen2, rulesU, litR, bolR, Nat.reduceAdd, Nat.reduceLeDiff, numR, memR, valR, heapR, updR, intR, decR, extR, slR, segR, thenR, pnR, Int.reduceToNat, Int.reduceAdd, Int.reduceSub, Int.reduceLT, Int.reduceLE, Nat.reduceSub, Nat.reduceMul, Nat.reduceEqDiff, hb, hp]
    apply hK
    · simp (disch := first | assumption | omega | (simp only [szR] <;> omega) | rfl | decide) only [gen0, gen1, gen2, rulesU, litR, bolR, Nat.reduceAdd, Nat.reduceLeDiff, numR, memR, valR, heapR, updR, intR, decR, extR, slR, segR, thenR, pnR, Int.reduceToNat, Int.reduceAdd, Int.reduceSub, Int.reduceLT, Int.reduceLE, Nat.reduceSub, Nat.reduceMul, Nat.reduceEqDiff, hb]
      rfl
    · (repeat first | assumption | exact Ext.refl | apply Ext.alloc | apply Ext.drew | (refine Ext.updN ?_ ?_; (focus first | omega | (simp only [szR] <;> omega))) | (refine Ext.updI ?_ ?_; (focus (simp; done))))
  | [x], _ =>
    simp only [setC, lnC, Ln.zero] at hb hp
    simp (disch := first | assumption | omega | (simp only [szR] <;> omega) | rfl | decide) only [gen0, gen1, gen2, rulesU, litR, bolR, Nat.reduceAdd, Nat.reduceLeDiff, numR, memR, valR, heapR, updR, intR, decR, extR, slR, segR, thenR, pnR, Int.reduceToNat, Int.reduceAdd, Int.reduceSub, Int.reduceLT, Int.reduceLE, Nat.reduceSub, Nat.reduceMul, Nat.reduceEqDiff, hb, hp]
    apply hK
    · simp (disch := first | assumption | omega | (simp only [szR] <;> omega) | rfl | decide) only [gen0, gen1, gen2, rulesU, litR, bolR, Nat.reduceAdd, Nat.reduceLeDiff, numR, memR, valR, heapR, updR, intR, decR, extR, slR, segR, thenR, pnR, Int.reduceToNat, Int.reduceAdd, Int.reduceSub, Int.reduceLT, Int.reduceLE, Nat.reduceSub, Nat.reduceMul, Nat.reduceEqDiff, hb]
      rfl
    · (repeat first | assumption | exact Ext.refl | apply Ext.alloc | apply Ext.drew | (refine Ext.updN ?_ ?_; (focus first | omega | (simp only [szR] <;> omega))) | (refine Ext.updI ?_ ?_; (focus (simp; done))))
theorem TPut_spec {w : World} {b : Nat} {S : Nat → List Ln} {T : List Value} {l : Ln} (hS : At w b S T) (h2 : Two S) (hn : 0 ≤ l.n ∧ l.n < 18446744073709551616) {K : Value → World → Prop}
    (hK : ∀ w', At w' b (putS S l) T → Ext [b] w w' → K (.tuple #[]) w') :
    callsK Try.prog 72 #[.pointer (some ⟨b, 0, none⟩), .agg (lnC l).toArray] w K := by
  obtain ⟨E, hb⟩ := hS
  have hlt := lt_of_at hb
  apply F72_ok
  unfold F72
  have hl1 : (lnC l)[1]? = some (.int .u64 l.n) := rfl
  have hl0 : (lnC l)[0]? = some (.int .u64 l.a) := rfl
  simp (disch := first | assumption | omega | (simp only [szR] <;> omega) | rfl | decide) only [gen0, gen1, gen2, rulesU, litR, bolR, Nat.reduceAdd, Nat.reduceLeDiff, numR, memR, valR, heapR, updR, intR, decR, extR, slR, segR, thenR, pnR, Int.reduceToNat, Int.reduceAdd, Int.reduceSub, Int.reduceLT, Int.reduceLE, Nat.reduceSub, Nat.reduceMul, Nat.reduceEqDiff, Option.isNone_some, hl1]
  apply of_spec hn
  simp (disch := first | assumption | omega | (simp only [szR] <;> omega) | rfl | decide) only [gen0, gen1, gen2, rulesU, litR, bolR, Nat.reduceAdd, Nat.reduceLeDiff, numR, memR, valR, heapR, updR, intR, decR, extR, slR, segR, thenR, pnR, Int.reduceToNat, Int.reduceAdd, Int.reduceSub, Int.reduceLT, Int.reduceLE, Nat.reduceSub, Nat.reduceMul, Nat.reduceEqDiff, Option.isNone_some, hl1, hl0]
  have hb1 : (w.alloc (.cells (lnC l).toArray 66)).heap[b]? = some (.cells (tlbC S ++ T).toArray E (0, 0)) := by simp (disch := first | assumption | omega | (simp only [szR] <;> omega) | rfl | decide) only [gen0, gen1, gen2, rulesU, litR, bolR, Nat.reduceAdd, Nat.reduceLeDiff, numR, memR, valR, heapR, updR, intR, decR, extR, slR, segR, thenR, pnR, Int.reduceToNat, Int.reduceAdd, Int.reduceSub, Int.reduceLT, Int.reduceLE, Nat.reduceSub, Nat.reduceMul, Nat.reduceEqDiff, hb]
  apply page_spec hb1
  intro f w1 hf hb2 hx1
  have hp1 := hx1.at (b := w.heap.size) (o := .cells (lnC l).toArray 66) (by simp (disch := first | assumption | omega | (simp only [szR] <;> omega) | rfl | decide) only [gen0, gen1, gen2, rulesU, litR, bolR, Nat.reduceAdd, Nat.reduceLeDiff, numR, memR, valR, heapR, updR, intR, decR, extR, slR, segR, thenR, pnR, Int.reduceToNat, Int.reduceAdd, Int.reduceSub, Int.reduceLT, Int.reduceLE, Nat.reduceSub, Nat.reduceMul, Nat.reduceEqDiff]) (by simp)
  simp (disch := first | assumption | omega | (simp only [szR] <;> omega) | rfl | decide) only [gen0, gen1, gen2, rulesU, litR, bolR, Nat.reduceAdd, Nat.reduceLeDiff, numR, memR, valR, heapR, updR, intR, decR, extR, slR, segR, thenR, pnR, Int.reduceToNat, Int.reduceAdd, Int.reduceSub, Int.reduceLT, Int.reduceLE, Nat.reduceSub, Nat.reduceMul, Nat.reduceEqDiff]
  apply dropAt_spec ⟨E, hb2⟩ h2 (mod4 hn.1) hf
  intro w2 hS2 hx2
  have hp2 := hx2.at hp1 (by simp; omega)
  obtain ⟨E2, hb3⟩ := hS2
  obtain ⟨A, B, hA, -, h3⟩ := tlb_seg S T (mod4 hn.1)
  have hx : Ext [b] w w2 := (((Ext.refl (w := w) (S := [b])).alloc _ _).trans hx1 (by simp)).trans hx2 (by simp)
  have hl2 : ((S (l.n % 4).toNat).filter (fun r => !(r.a == l.a && r.n == l.n))).length ≤ 2 := Nat.le_trans (List.length_filter_le _ _) (h2 _)
  have hfin : ∀ w', w'.heap[b]? = some (.cells (seg A (setC (put2 ((S (l.n % 4).toNat).filter (fun r => !(r.a == l.a && r.n == l.n))) l)) B).toArray E2 (0, 0)) → Ext [b] w w' → K (.tuple #[]) w' := fun w' hb' hx' => hK w' ⟨E2, by unfold putS; rw [h3]; exact hb'⟩ hx'
  rw [h3] at hb3
  generalize (S (l.n % 4).toNat).filter (fun r => !(r.a == l.a && r.n == l.n)) = s1 at hb3 hl2 hfin
  rw [← hA]
  clear hK hf
  refine joinL.intro fun J hJ => ?_
  have hrest : ∀ w3 s3, s3.length ≤ 1 → w3.heap[b]? = some (.cells (seg A (setC s3) B).toArray E2 (0, 0)) → w3.heap[w.heap.size]? = some (.cells (lnC l).toArray 66 (0, 0)) → Ext [b] w w3 → put2 s1 l = s3 ++ [l] → J [] w3 := by
    intro w3 s3 h1 h2 h4 h5 h6
    apply hJ
    intro _
    refine add_spec h2 h4 h1 fun w' hb' hx' => hfin w' (by rw [h6]; exact hb') (h5.trans hx' (by simp))
  have hc : (setC s1)[32]? = some (.int .i64 s1.length) := by
    match s1, hl2 with
    | [], _ => rfl
    | [x], _ => rfl
    | [x, y], _ => rfl
  have hsl := setC_length s1
  by_cases h : s1.length = 2
  · simp (disch := first | assumption | omega | (simp only [szR] <;> omega) | rfl | decide) only [gen0, gen1, gen2, rulesU, litR, bolR, Nat.reduceAdd, Nat.reduceLeDiff, numR, memR, valR, heapR, updR, intR, decR, extR, slR, segR, thenR, pnR, Int.reduceToNat, Int.reduceAdd, Int.reduceSub, Int.reduceLT, Int.reduceLE, Nat.reduceSub, Nat.reduceMul, Nat.reduceEqDiff, hb3, hc]
    refine take_spec (k := 0) hb3 (by omega) hl2 fun w3 hb4 hx3 => ?_
    refine hrest w3 (s1.eraseIdx 0) ?_ hb4 (hx3.at hp2 (by simp; omega)) (hx.trans hx3 (by simp)) ?_
    · rw [List.length_eraseIdx]; split <;> omega
    · unfold put2; rw [if_pos h]; simp
  · simp (disch := first | assumption | omega | (simp only [szR] <;> omega) | rfl | decide) only [gen0, gen1, gen2, rulesU, litR, bolR, Nat.reduceAdd, Nat.reduceLeDiff, numR, memR, valR, heapR, updR, intR, decR, extR, slR, segR, thenR, pnR, Int.reduceToNat, Int.reduceAdd, Int.reduceSub, Int.reduceLT, Int.reduceLE, Nat.reduceSub, Nat.reduceMul, Nat.reduceEqDiff, hb3, hc]
    refine hrest w2 s1 (by omega) hb3 hp2 hx ?_
    unfold put2; rw [if_neg h]
/-! ### looking a page up -/
def look (S : Nat → List Ln) (a n : Int) : Ln × Bool :=
  match (S (n % 4).toNat).find? (fun l => l.a == a && l.n == n) with
  | some l => (l, true)
  | none => (Ln.zero, false)
theorem Look_spec {w : World} {b : Nat} {S : Nat → List Ln} {T : List Value} {a n : Int} (hS : At w b S T) (h2 : Two S) (hn : 0 ≤ n ∧ n < 18446744073709551616) {K : Value → World → Prop}
    (hK : ∀ w', Ext [] w w' → K (.tuple #[.agg (lnC (look S a n).1).toArray, .bool (look S a n).2]) w') :
    callsK Try.prog 68 #[.pointer (some ⟨b, 0, none⟩), .int .u64 a, .int .u64 n] w K := by
  obtain ⟨E, hb⟩ := hS
  have hlt := lt_of_at hb
  apply F68_ok
  unfold F68
  simp (disch := first | assumption | omega | (simp only [szR] <;> omega) | rfl | decide) only [gen0, gen1, gen2, rulesU, litR, bolR, Nat.reduceAdd, Nat.reduceLeDiff, numR, memR, valR, heapR, updR, intR, decR, extR, slR, segR, thenR, pnR, Int.reduceToNat, Int.reduceAdd, Int.reduceSub, Int.reduceLT, Int.reduceLE, Nat.reduceSub, Nat.reduceMul, Nat.reduceEqDiff, Option.isNone_some]
  apply of_spec hn
  simp (disch := first | assumption | omega | (simp only [szR] <;> omega) | rfl | decide) only [gen0, gen1, gen2, rulesU, litR, bolR, Nat.reduceAdd, Nat.reduceLeDiff, numR, memR, valR, heapR, updR, intR, decR, extR, slR, segR, thenR, pnR, Int.reduceToNat, Int.reduceAdd, Int.reduceSub, Int.reduceLT, Int.reduceLE, Nat.reduceSub, Nat.reduceMul, Nat.reduceEqDiff]
  have hb1 : (w.alloc (.cells (lnC Ln.zero).toArray 66)).heap[b]? = some (.cells (tlbC S ++ T).toArray E (0, 0)) := by simp (disch := first | assumption | omega | (simp only [szR] <;> omega) | rfl | decide) only [gen0, gen1, gen2, rulesU, litR, bolR, Nat.reduceAdd, Nat.reduceLeDiff, numR, memR, valR, heapR, updR, intR, decR, extR, slR, segR, thenR, pnR, Int.reduceToNat, Int.reduceAdd, Int.reduceSub, Int.reduceLT, Int.reduceLE, Nat.reduceSub, Nat.reduceMul, Nat.reduceEqDiff, hb]
  refine page_spec hb1 ?_
  intro f w1 hf hb2 hx1
  have hp1 := hx1.at (b := w.heap.size) (o := .cells (lnC Ln.zero).toArray 66) (by simp (disch := first | assumption | omega | (simp only [szR] <;> omega) | rfl | decide) only [gen0, gen1, gen2, rulesU, litR, bolR, Nat.reduceAdd, Nat.reduceLeDiff, numR, memR, valR, heapR, updR, intR, decR, extR, slR, segR, thenR, pnR, Int.reduceToNat, Int.reduceAdd, Int.reduceSub, Int.reduceLT, Int.reduceLE, Nat.reduceSub, Nat.reduceMul, Nat.reduceEqDiff]) (by simp)
  obtain ⟨A, B, hA, h1, -⟩ := tlb_seg S T (mod4 hn.1)
  have hx : Ext [] w w1 := ((Ext.refl (w := w) (S := [])).alloc _ _).trans hx1 (by simp)
  rw [h1] at hb2
  rw [← hA]
  have hl2 := h2 (n % 4).toNat
  have hfin : ∀ (r : Option Ln) w', (S (n % 4).toNat).find? (fun l => l.a == a && l.n == n) = r → Ext [] w w' → K (.tuple #[.agg (lnC (r.getD Ln.zero)).toArray, .bool r.isSome]) w' := by
    intro r w' hr hx'
    have := hK w' hx'
    unfold look at this
    rw [hr] at this
    cases r <;> exact this
  generalize S (n % 4).toNat = s at hb2 hl2 hfin
  have hsl := setC_length s
  have hc : (setC s)[32]? = some (.int .i64 s.length) := by
    match s, hl2 with
    | [], _ => rfl
    | [x], _ => rfl
    | [x, y], _ => rfl
  simp (disch := first | assumption | omega | (simp only [szR] <;> omega) | rfl | decide) only [gen0, gen1, gen2, rulesU, litR, bolR, Nat.reduceAdd, Nat.reduceLeDiff, numR, memR, valR, heapR, updR, intR, decR, extR, slR, segR, thenR, pnR, Int.reduceToNat, Int.reduceAdd, Int.reduceSub, Int.reduceLT, Int.reduceLE, Nat.reduceSub, Nat.reduceMul, Nat.reduceEqDiff, hb2, hc]
  refine loopT.intro (fun st w' => ∃ (k : Nat), k ≤ s.length ∧ st = [.int .i64 (k : Int)] ∧ (∀ l ∈ s.take k, (l.a == a && l.n == n) = false) ∧ w'.heap[b]? = some (.cells (seg A (setC s) B).toArray E (0, 0)) ∧ w'.heap[w.heap.size]? = some (.cells (lnC Ln.zero).toArray 66 (0, 0)) ∧ Ext [] w w' ∧ Ext [] w1 w')
    (fun st _ => match st with
      | [.int _ z] => s.length - z.toNat
      | _ => 0) ⟨0, Nat.zero_le _, rfl, by simp, hb2, hp1, hx.drew, Ext.refl.drew⟩ ?_
  rintro st w' ⟨k, hk, rfl, hno, hb', hp', hx', hx1'⟩ _
  have hlt' := lt_of_at hb'
  have hpt' := lt_of_at hp'
  by_cases hks : k < s.length
  · have hg : s[k]? = some s[k] := by simp
    have hcl : ∀ o, o = k * 16 → sub (setC s) o 16 = lnC s[k] := fun o ho => setC_sub hl2 hg ho
    have hL := lnC_len s[k]
    have hO := lnC_one s[k]
    simp (disch := first | assumption | omega | (simp only [szR] <;> omega) | rfl | decide) only [gen0, gen1, gen2, rulesU, litR, bolR, Nat.reduceAdd, Nat.reduceLeDiff, numR, memR, valR, heapR, updR, intR, decR, extR, slR, segR, thenR, pnR, Int.reduceToNat, Int.reduceAdd, Int.reduceSub, Int.reduceLT, Int.reduceLE, Nat.reduceSub, Nat.reduceMul, Nat.reduceEqDiff, hb', hcl, lnC_len, lnC_sub, lnC_put]
    refine hf s[k] _ _ ((hx1'.alloc _ _).mono (by simp)) fun w2 hx2 => ?_
    have hx3 : Ext [] w w2 := (hx'.alloc _ _).trans hx2 (by simp)
    have hq2 := hx2.at (b := w'.heap.size) (o := .cells (lnC s[k]).toArray 66) (by simp (disch := first | assumption | omega | (simp only [szR] <;> omega) | rfl | decide) only [gen0, gen1, gen2, rulesU, litR, bolR, Nat.reduceAdd, Nat.reduceLeDiff, numR, memR, valR, heapR, updR, intR, decR, extR, slR, segR, thenR, pnR, Int.reduceToNat, Int.reduceAdd, Int.reduceSub, Int.reduceLT, Int.reduceLE, Nat.reduceSub, Nat.reduceMul, Nat.reduceEqDiff]) (by simp)
    have hb3 := hx2.at (b := b) (o := .cells (seg A (setC s) B).toArray E) (by simp (disch := first | assumption | omega | (simp only [szR] <;> omega) | rfl | decide) only [gen0, gen1, gen2, rulesU, litR, bolR, Nat.reduceAdd, Nat.reduceLeDiff, numR, memR, valR, heapR, updR, intR, decR, extR, slR, segR, thenR, pnR, Int.reduceToNat, Int.reduceAdd, Int.reduceSub, Int.reduceLT, Int.reduceLE, Nat.reduceSub, Nat.reduceMul, Nat.reduceEqDiff, hb']) (by simp)
    have hp3 := hx2.at (b := w.heap.size) (o := .cells (lnC Ln.zero).toArray 66) (by simp (disch := first | assumption | omega | (simp only [szR] <;> omega) | rfl | decide) only [gen0, gen1, gen2, rulesU, litR, bolR, Nat.reduceAdd, Nat.reduceLeDiff, numR, memR, valR, heapR, updR, intR, decR, extR, slR, segR, thenR, pnR, Int.reduceToNat, Int.reduceAdd, Int.reduceSub, Int.reduceLT, Int.reduceLE, Nat.reduceSub, Nat.reduceMul, Nat.reduceEqDiff, hp']) (by simp)
    show condK (.bool (s[k].a == a && s[k].n == n)) _ _
    generalize hp : (s[k].a == a && s[k].n == n) = r
    cases r with
    | true =>
      have hL2 := lnC_len Ln.zero
      simp (disch := first | assumption | omega | (simp only [szR] <;> omega) | rfl | decide) only [gen0, gen1, gen2, rulesU, litR, bolR, Nat.reduceAdd, Nat.reduceLeDiff, numR, memR, valR, heapR, updR, intR, decR, extR, slR, segR, thenR, pnR, Int.reduceToNat, Int.reduceAdd, Int.reduceSub, Int.reduceLT, Int.reduceLE, Nat.reduceSub, Nat.reduceMul, Nat.reduceEqDiff, hq2, hp3, lnC_sub, lnC_over, lnC_len]
      refine hfin (some s[k]) _ ?_ (by (repeat first | assumption | exact Ext.refl | apply Ext.alloc | apply Ext.drew | (refine Ext.updN ?_ ?_; (focus first | omega | (simp only [szR] <;> omega))) | (refine Ext.updI ?_ ?_; (focus (simp; done)))))
      have e1 : (s.take k).find? (fun l => l.a == a && l.n == n) = none := List.find?_eq_none.2 fun l hl => by rw [Bool.not_eq_true]; exact hno l hl
      have e2 : (s.drop k).find? (fun l => l.a == a && l.n == n) = some s[k] := by rw [List.drop_eq_getElem_cons hks]; exact List.find?_cons_of_pos hp
      have e3 : s.find? (fun l => l.a == a && l.n == n) = (s.take k ++ s.drop k).find? (fun l => l.a == a && l.n == n) := by rw [List.take_append_drop]
      rw [e3, List.find?_append, e1, e2]
      rfl
    | false =>
      simp (disch := first | assumption | omega | (simp only [szR] <;> omega) | rfl | decide) only [gen0, gen1, gen2, rulesU, litR, bolR, Nat.reduceAdd, Nat.reduceLeDiff, numR, memR, valR, heapR, updR, intR, decR, extR, slR, segR, thenR, pnR, Int.reduceToNat, Int.reduceAdd, Int.reduceSub, Int.reduceLT, Int.reduceLE, Nat.reduceSub, Nat.reduceMul, Nat.reduceEqDiff, hq2, lnC_sub, lnC_over, lnC_len]
      refine ⟨⟨k + 1, by omega, rfl, ?_, hb3, hp3, hx3, (hx1'.alloc _ _).trans hx2 (by simp)⟩, ?_⟩
      · rw [List.take_succ_eq_append_getElem (by omega)]
        intro l hl
        rcases List.mem_append.1 hl with h | h
        · exact hno l h
        · rw [List.mem_singleton.1 h]; exact hp
      · simp; omega
  · have hL := lnC_len Ln.zero
    have hO := lnC_one Ln.zero
    simp only [lnC, Ln.zero] at hp'
    simp (disch := first | assumption | omega | (simp only [szR] <;> omega) | rfl | decide) only [gen0, gen1, gen2, rulesU, litR, bolR, Nat.reduceAdd, Nat.reduceLeDiff, numR, memR, valR, heapR, updR, intR, decR, extR, slR, segR, thenR, pnR, Int.reduceToNat, Int.reduceAdd, Int.reduceSub, Int.reduceLT, Int.reduceLE, Nat.reduceSub, Nat.reduceMul, Nat.reduceEqDiff, hp']
    refine hfin none _ ?_ (by (repeat first | assumption | exact Ext.refl | apply Ext.alloc | apply Ext.drew | (refine Ext.updN ?_ ?_; (focus first | omega | (simp only [szR] <;> omega))) | (refine Ext.updI ?_ ?_; (focus (simp; done)))))
    rw [List.find?_eq_none]
    intro l hl
    rw [Bool.not_eq_true]
    exact hno l (by rw [List.take_of_length_le (by omega)]; exact hl)
theorem Two.put4 {S : Nat → List Ln} (h : Two S) {i : Nat} {s : List Ln} (hs : s.length ≤ 2) : Two (put4 S i s) := by
  intro j
  unfold Ytbigiabcgplkgaa.put4
  split
  · exact hs
  · exact h j
theorem put2_le {s : List Ln} {l : Ln} (h : s.length ≤ 2) : (put2 s l).length ≤ 2 := by
  unfold put2
  split
  · simp; omega
  · simp; omega
theorem Two.putS {S : Nat → List Ln} (h : Two S) (l : Ln) : Two (putS S l) := h.put4 (put2_le (Nat.le_trans (List.length_filter_le _ _) (h _)))
/-! ### all lines -/
def lsC (l : List Ln) : List Value := l.flatMap lnC
theorem lsC_append (a b : List Ln) : lsC (a ++ b) = lsC a ++ lsC b := by simp [lsC]
theorem lsC_all (l : List Ln) : (lsC l).all (fun v => v.oneCell') = true := by
  induction l with
  | nil => rfl
  | cons x l ih =>
    show ((lnC x ++ lsC l).all fun v => v.oneCell') = true
    rw [List.all_append, lnC_one, ih]; rfl
theorem setC_lines {s : List Ln} (h : s.length ≤ 2) : sub (setC s) 0 (s.length * 16) = lsC s := by
  match s, h with
  | [], _ => rfl
  | [x], _ => rfl
  | [x, y], _ => rfl
def upto (S : Nat → List Ln) : Nat → List Ln
  | 0 => []
  | k + 1 => upto S k ++ S k
theorem upto_le {S : Nat → List Ln} (h : Two S) : ∀ k, (upto S k).length ≤ 2 * k
  | 0 => Nat.le_refl _
  | k + 1 => by have := upto_le h k; have := h k; simp [upto]; omega
theorem Lines_spec {w : World} {b : Nat} {S : Nat → List Ln} {T : List Value} (hS : At w b S T) (h2 : Two S) {K : Value → World → Prop}
    (hK : ∀ v w', Own w' w.heap.size 66 16 v (upto S 4).length (lsC (upto S 4)) → Ext [] w w' → K v w') :
    callsK Try.prog 43 #[.pointer (some ⟨b, 0, none⟩)] w K := by
  have hlt := lt_of_at hS.choose_spec
  apply F43_ok
  unfold F43
  simp (disch := first | assumption | omega | (simp only [szR] <;> omega) | rfl | decide) only [gen0, gen1, gen2, rulesU, litR, bolR, Nat.reduceAdd, Nat.reduceLeDiff, numR, memR, valR, heapR, updR, intR, decR, extR, slR, segR, thenR, pnR, Int.reduceToNat, Int.reduceAdd, Int.reduceSub, Int.reduceLT, Int.reduceLE, Nat.reduceSub, Nat.reduceMul, Nat.reduceEqDiff, Option.isNone_some]
  refine loopT.intro (fun st w' => ∃ (k : Nat) (v : Value), k ≤ 4 ∧ st = [v, .int .i64 (k : Int)] ∧ Own w' w.heap.size 66 16 v (upto S k).length (lsC (upto S k)) ∧ Ext [] w w')
    (fun st _ => match st with
      | [_, .int _ z] => 4 - z.toNat
      | _ => 0) ⟨0, _, by omega, rfl, Own.nil, Ext.refl⟩ ?_
  rintro st w' ⟨k, v, hk, rfl, hown, hx⟩ _
  by_cases h4 : k < 4
  · obtain ⟨E, hb⟩ := hS.ext hx (by simp)
    obtain ⟨A, B, hA, h1, -⟩ := tlb_seg S T h4
    rw [h1] at hb
    have hsl := setC_length (S k)
    have hl2 := h2 k
    have hc : (setC (S k))[32]? = some (.int .i64 (S k).length) := by
      match S k, hl2 with
      | [], _ => rfl
      | [x], _ => rfl
      | [x, y], _ => rfl
    simp (disch := first | assumption | omega | (simp only [szR] <;> omega) | rfl | decide) only [gen0, gen1, gen2, rulesU, litR, bolR, Nat.reduceAdd, Nat.reduceLeDiff, numR, memR, valR, heapR, updR, intR, decR, extR, slR, segR, thenR, pnR, Int.reduceToNat, Int.reduceAdd, Int.reduceSub, Int.reduceLT, Int.reduceLE, Nat.reduceSub, Nat.reduceMul, Nat.reduceEqDiff, ← hA, hb, hc]
    have hu := upto_le h2 k
    have hsub : sub (seg A (setC (S k)) B) A.length ((S k).length * 16) = lsC (S k) := by
      rw [seg_sub (Nat.le_refl _) (by omega), Nat.sub_self, setC_lines hl2]
    refine kV_appendO (bytes := 48) Try.underlying105 (by kernel_rfl) (by omega) (o := A.length) (m := (S k).length) hown (l := seg A (setC (S k)) B) (E := E) (f := (0, 0)) hb (by rw [seg_length]; omega) (by rw [hsub]; exact lsC_all _) (by simp only [maxLen]; omega) (by omega) hx.size fun v' w2 hown2 happ => ?_
    simp (disch := first | assumption | omega | (simp only [szR] <;> omega) | rfl | decide) only [gen0, gen1, gen2, rulesU, litR, bolR, Nat.reduceAdd, Nat.reduceLeDiff, numR, memR, valR, heapR, updR, intR, decR, extR, slR, segR, thenR, pnR, Int.reduceToNat, Int.reduceAdd, Int.reduceSub, Int.reduceLT, Int.reduceLE, Nat.reduceSub, Nat.reduceMul, Nat.reduceEqDiff]
    refine ⟨⟨k + 1, v', by omega, rfl, ?_, happ.ext w [] (Nat.le_refl _) hx.drew⟩, by simp; omega⟩
    rw [hsub] at hown2
    simpa [upto, lsC_append] using hown2
  · obtain rfl : k = 4 := by omega
    simp (disch := first | assumption | omega | (simp only [szR] <;> omega) | rfl | decide) only [gen0, gen1, gen2, rulesU, litR, bolR, Nat.reduceAdd, Nat.reduceLeDiff, numR, memR, valR, heapR, updR, intR, decR, extR, slR, segR, thenR, pnR, Int.reduceToNat, Int.reduceAdd, Int.reduceSub, Int.reduceLT, Int.reduceLE, Nat.reduceSub, Nat.reduceMul, Nat.reduceEqDiff]
    exact hK _ _ hown hx
end Go.Proofs.Ytbigiabcgplkgaa
