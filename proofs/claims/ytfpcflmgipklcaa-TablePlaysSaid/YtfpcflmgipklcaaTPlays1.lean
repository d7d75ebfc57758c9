/- A step of the document's tables; conditions: those of each theorem. -/
import Derived.Test.YtfpcflmgipklcaaTCor
namespace Go.Proofs.Ytfpcflmgipklcaa
open Go.Fx
set_option maxRecDepth 100000
set_option linter.unusedSimpArgs false
set_option linter.unusedVariables false
theorem neqE9 {f g : Nat → Bool} {n m : Nat} (x y : Operand) (w : World) : (binV .neq 46 x y (.agg (entC f n).toArray) (.agg (entC g m).toArray)).run Try.prog w = .ok (.bool (!(eqE f n g m))) w := by
  exact RQ_neq_46 _ _ _ _ _ _ _ _ _ _ _ _ _ _ _ _ _ _ _ _ _ _ _ _ _ _ x y w
theorem pfreeO {w0 w : World} {tb r q p n : Nat} {m g : Nat → Int} {t : Nat} {fs oth : List Nat} {lv : Nat → Nat} {par : Nat → Nat × Nat} (h : Tab w0 w tb r q p n m g t fs) (hT : Tree m n fs lv par) (hO : OwnT t (fs ++ oth)) (hD : (fs ++ oth).Nodup) (hoth : ∀ f ∈ oth, f < n) {K : Value → World → Prop} (hK : ∀ w', Ext [] w w' → K (.int .i64 ((n : Nat) - (fs.length + oth.length : Nat) : Int)) w') : callsK Try.prog 19 #[.pointer (some ⟨p, 0, none⟩)] w K := by
  have hn := h.num
  refine Free_spec h.pool hn h.bits fun w' hx => ?_
  rw [cnt_fs hO hD (fun a ha => by
    rcases List.mem_append.1 ha with ha | ha
    · have := hT.lt a ha
      omega
    · have := hoth a ha
      omega), List.length_append]
  exact hK w' hx
/-- what a step Set of the document comes to. -/
def outR (R : RT) (a : ActE) (free : Int) : Int × RT := if ¬ a.va < 274877906944 ∨ (leaf a.f && right a.f a.x) = false then (2, R) else if free < needR R a.va then (15, R) else (0, setR R a.va ⟨a.f, a.x⟩)
/-- tables of the document that are new turn to such ones alone; all else stays. -/
structure KeepT (N0 : Nat) (R : RT) (w w' : World) : Prop where
  os : w'.os = w.os
  tape : w'.tape = w.tape
  output : w'.output = w.output
  size : w.heap.size ≤ w'.heap.size
  old : ∀ k, k < N0 → k < w.heap.size → w'.heap[k]? = w.heap[k]?
  other : ∀ (k : Nat) (l : Array Value) (E : TypeId), w.heap[k]? = some (.cells l E (0, 0)) → E ≠ 37 → w'.heap[k]? = some (.cells l E (0, 0))
  tbl : ∀ (k : Nat) (l : Array Value), w.heap[k]? = some (.cells l 37 (0, 0)) → w'.heap[k]? = some (.cells l 37 (0, 0)) ∨ ∃ u0 u1 u2 u3, w'.heap[k]? = some (.cells (tvC u0 u1 u2 u3).toArray 37 (0, 0)) ∧ RefT w' u0 u1 u2 u3 R
theorem KeepT.ref {N0 : Nat} {R R' : RT} {w w' : World} {u0 u1 u2 u3 : Value} (h : KeepT N0 R w w') (hr : RefT w u0 u1 u2 u3 R') : RefT w' u0 u1 u2 u3 R' := by
  have h0 : ∀ {E : TypeId} {n : Nat} {v : Value} {rows : List (List Value)}, E ≠ 37 → OwnR w 0 E n v rows → OwnR w' 0 E n v rows := fun hE ho => by
    refine ⟨⟨ho.own.1, ho.own.2.imp id ?_⟩, ho.size, ho.one⟩
    rintro ⟨g, cap, cur, rfl, a1, a2, a3⟩
    exact ⟨g, cap, cur, rfl, a1, h.other _ _ _ a2 hE, a3⟩
  exact ⟨h0 (by decide) hr.ps, h0 (by decide) hr.es, h0 (by decide) hr.mid, h0 (by decide) hr.low⟩
theorem KeepT.trans {N0 : Nat} {R : RT} {a b c : World} (h : KeepT N0 R a b) (h' : KeepT N0 R b c) : KeepT N0 R a c := by
  refine ⟨h'.os.trans h.os, h'.tape.trans h.tape, h'.output.trans h.output, Nat.le_trans h.size h'.size, fun k h1 h2 => (h'.old k h1 (Nat.lt_of_lt_of_le h2 h.size)).trans (h.old k h1 h2), fun k l E h1 h2 => h'.other k l E (h.other k l E h1 h2) h2, fun k l h1 => ?_⟩
  rcases h.tbl k l h1 with h2 | ⟨u0, u1, u2, u3, h2, h3⟩
  · exact h'.tbl k l h2
  · rcases h'.tbl k _ h2 with h4 | h4
    · exact .inr ⟨u0, u1, u2, u3, h4, h'.ref h3⟩
    · exact .inr h4
theorem KeepT.of {N0 : Nat} {R : RT} {w w' : World} (h : Ext [] w w') : KeepT N0 R w w' :=
  ⟨h.os, h.tape, h.output, h.size, fun k _ hk => h.kept k hk (by simp), fun k l E h1 _ => h.at h1 (by simp), fun k l h1 => .inl (h.at h1 (by simp))⟩
theorem KeepT.refl {N0 : Nat} {R : RT} {w : World} : KeepT N0 R w w := KeepT.of Ext.refl
theorem KeepT.at {N0 : Nat} {R : RT} {w w' : World} {b : Nat} {o : Obj} (h : KeepT N0 R w w') (hb : w.heap[b]? = some o) (hN : b < N0) : w'.heap[b]? = some o := (h.old b hN (lt_of_at hb)).trans hb
theorem KeepT.ext {R : RT} {w w' : World} (h : KeepT w.heap.size R w w') : Ext [] w w' := ⟨h.os, h.tape, h.output, h.size, fun k hk _ => h.old k hk hk⟩
theorem relX.keepT (N0 : Nat) (R : RT) {G : (World → World → Prop) → Prop} (h : G (KeepT N0 R)) : relX G := ⟨KeepT N0 R, fun _ => KeepT.refl, fun _ _ _ h1 h2 => h1.trans h2, fun _ _ h => h.size, h⟩
theorem okX.isT {N0 : Nat} {R : RT} {w : World} {v : Value} : okX (KeepT N0 R) w (fun u _ => u = v) v w := ⟨KeepT.refl, rfl⟩
set_option maxHeartbeats 2000000
theorem set_region {w : World} {bx ba : Nat} {u0 u1 u2 u3 vo : Value} {R : RT} {a : ActE} {oth : List Nat} (hb : w.heap[bx]? = some (.cells (tvC u0 u1 u2 u3).toArray 37 (0, 0))) (hr : RefT w u0 u1 u2 u3 R) (hn : R.ps.length < 50000 ∧ R.mid.length < 50000 ∧ R.low.length < 50000) (ha : w.heap[ba]? = some (.cells (actC a).toArray 42 (0, 0))) (hva : a.va < 18446744073709551616) (hax : a.x < 18446744073709551616) (ho : OthS w 0 vo oth) (hol : oth.length < 1000)
    {v11 v14 : Value} {s3 : List Value} (e11 : v11 = .pointer (some ⟨bx, 0, none⟩)) (e14 : v14 = .pointer (some ⟨ba, 0, none⟩)) (es : s3.getD 0 undef = vo) {J11 : List Value → World → Prop}
    (hJ : ∀ b t0 t1 t2 t3 w', RefT w' t0 t1 t2 t3 (outR R a (12 - oth.length - (1 + R.mid.length + R.low.length))).2 → w'.heap[b]? = some (.cells (tvC t0 t1 t2 t3).toArray 37 (0, 0)) → w.heap.size ≤ b → Ext [] w w' → J11 [.pointer (some ⟨b, 0, none⟩), .int .i64 (outR R a (12 - oth.length - (1 + R.mid.length + R.low.length))).1] w') : (drewK (fun w =>
  relX fun R13 =>
  postX R13 (fun p13_83 => allX R13 w fun V13 w => True → kV Try.prog (Instr.loadAt 37 v11) w (okX R13 w p13_83)) fun p13_83 =>
  postX R13 (fun p13_84 => allX R13 w fun V13 w => True → kV Try.prog (Instr.fieldAt 42 v14 2) w (okX R13 w p13_84)) fun p13_84 =>
  postX R13 (fun p13_85 => allX R13 w fun V13 w => p13_84 (V13 84) w ∧ True → kV Try.prog (Instr.loadAt 23 (V13 84)) w (okX R13 w p13_85)) fun p13_85 =>
  postX R13 (fun p13_86 => allX R13 w fun V13 w => True → kV Try.prog (Instr.fieldAt 42 v14 3) w (okX R13 w p13_86)) fun p13_86 =>
  postX R13 (fun p13_87 => allX R13 w fun V13 w => p13_86 (V13 86) w ∧ True → kV Try.prog (Instr.loadAt 40 (V13 86)) w (okX R13 w p13_87)) fun p13_87 =>
  postX R13 (fun p13_88 => allX R13 w fun V13 w => True → (okX R13 w p13_88) (s3.getD 0 undef) w) fun p13_88 =>
  postX R13 (fun p13_89 => allX R13 w fun V13 w => p13_88 (V13 88) w ∧ True → kV Try.prog (Builtin.len_ #[38] 3 #[(V13 88)]) w (okX R13 w p13_89)) fun p13_89 =>
  postX R13 (fun p13_90 => allX R13 w fun V13 w => p13_89 (V13 89) w ∧ True → kV Try.prog (binV .sub 3 (.const (.int .i64 12)) (.tmp 89) (.int .i64 12) (V13 89)) w (okX R13 w p13_90)) fun p13_90 =>
  postX R13 (fun p13_91 => allX R13 w fun V13 w => True → kV Try.prog (Instr.loadAt 37 v11) w (okX R13 w p13_91)) fun p13_91 =>
  postX R13 (fun p13_92 => allX R13 w fun V13 w => p13_91 (V13 91) w ∧ True → kN Try.prog (callN (.func (.func 11) #[] #[]) #[(V13 91)]) w (okX R13 w p13_92)) fun p13_92 =>
  postX R13 (fun p13_93 => allX R13 w fun V13 w => p13_90 (V13 90) w ∧ p13_92 (V13 92) w ∧ True → kV Try.prog (binV .sub 3 (.tmp 90) (.tmp 92) (V13 90) (V13 92)) w (okX R13 w p13_93)) fun p13_93 =>
  postX R13 (fun p13_94 => allX R13 w fun V13 w => p13_83 (V13 83) w ∧ p13_85 (V13 85) w ∧ p13_87 (V13 87) w ∧ p13_92 (V13 92) w ∧ p13_93 (V13 93) w ∧ True → kN Try.prog (callN (.func (.func 10) #[] #[]) #[(V13 83), (V13 85), (V13 87), (V13 93)]) w (okX R13 w p13_94)) fun p13_94 =>
  postX R13 (fun p13_82 => allX R13 w fun V13 w => p13_94 (V13 94) w ∧ True → (okX R13 w p13_82) (V13 94) w) fun p13_82 =>
  postX R13 (fun p13_95 => allX R13 w fun V13 w => p13_82 (V13 82) w ∧ True → kV Try.prog (Instr.extract (V13 82) 0) w (okX R13 w p13_95)) fun p13_95 =>
  postX R13 (fun p13_96 => allX R13 w fun V13 w => p13_82 (V13 82) w ∧ True → kV Try.prog (Instr.extract (V13 82) 1) w (okX R13 w p13_96)) fun p13_96 =>
  postX R13 (fun p13_17 => allX R13 w fun V13 w => True → kV Try.prog (Instr.alloc 37 true (.tuple #[])) w (okX R13 w p13_17)) fun p13_17 =>
  postX R13 (fun p13_n16 => allX R13 w fun V13 w => p13_83 (V13 83) w ∧ p13_84 (V13 84) w ∧ p13_85 (V13 85) w ∧ p13_86 (V13 86) w ∧ p13_87 (V13 87) w ∧ p13_88 (V13 88) w ∧ p13_89 (V13 89) w ∧ p13_90 (V13 90) w ∧ p13_91 (V13 91) w ∧ p13_92 (V13 92) w ∧ p13_93 (V13 93) w ∧ p13_94 (V13 94) w ∧ p13_82 (V13 82) w ∧ p13_95 (V13 95) w ∧ p13_17 (V13 17) w ∧ True → kU Try.prog (Instr.storeAt 37 (V13 17) (V13 95)) w (okX R13 w (fun _ => p13_n16 (V13 17)))) fun p13_n16 =>
  allX R13 w fun V13 w => p13_83 (V13 83) w ∧ p13_84 (V13 84) w ∧ p13_85 (V13 85) w ∧ p13_86 (V13 86) w ∧ p13_87 (V13 87) w ∧ p13_88 (V13 88) w ∧ p13_89 (V13 89) w ∧ p13_90 (V13 90) w ∧ p13_91 (V13 91) w ∧ p13_92 (V13 92) w ∧ p13_93 (V13 93) w ∧ p13_94 (V13 94) w ∧ p13_82 (V13 82) w ∧ p13_95 (V13 95) w ∧ p13_96 (V13 96) w ∧ p13_17 (V13 17) w ∧ p13_n16 (V13 17) w ∧ True → xDist V13 [17] →
  J11 [(V13 17), (V13 96)] w) w) := by
  subst e11 e14
  rw [drewK_eq, es]
  have hxd : Ext [] w w.drew := by (repeat first | assumption | exact Ext.refl | apply Ext.alloc | apply Ext.drew | (refine Ext.updN ?_ ?_; (focus first | omega | (simp only [szR] <;> omega))) | (refine Ext.updI ?_ ?_; (focus (simp; done))))
  obtain ⟨W, hW⟩ : ∃ W, W = w.drew := ⟨_, rfl⟩
  rw [← hW] at hxd ⊢
  have hb := hxd.at hb (by simp)
  have ha := hxd.at ha (by simp)
  have hr := hr.ext hxd (by simp)
  have lb := lt_of_at hb
  have la := lt_of_at ha
  have hol2 := ho.len
  have hsz := hxd.size
  obtain ⟨q, hq⟩ : ∃ q, q = outR R a (12 - oth.length - (1 + R.mid.length + R.low.length)) := ⟨_, rfl⟩
  rw [← hq] at hJ
  refine relX.keepT W.heap.size q.2 ?_
  refine postX.is (.agg (tvC u0 u1 u2 u3).toArray) (fun V w2 hR _ => by have e := hR.at hb lb; simp (disch := first | assumption | omega | (simp only [szR, tgC_len, tgC_all, entC_len, entC_all, tvC_len, tvC_all, actC_len, actC_all] <;> omega) | rfl | decide) only [gen0, gen1, gen2, rulesM, rulesT, rulesQ, litR, bolR, Nat.reduceAdd, Nat.reduceLeDiff, numR, memR, valR, heapR, updR, intR, decR, extR, slR, segR, thenR, pnR, Int.reduceToNat, Int.reduceAdd, Int.reduceSub, Int.reduceLT, Int.reduceLE, Nat.reduceSub, Nat.reduceMul, Nat.reduceEqDiff, e, tvC_sub]; exact okX.isT) ?_
  refine postX.is (.pointer (some ⟨ba, 2, none⟩)) (fun V w2 hR _ => by simp (disch := first | assumption | omega | (simp only [szR, tgC_len, tgC_all, entC_len, entC_all, tvC_len, tvC_all, actC_len, actC_all] <;> omega) | rfl | decide) only [gen0, gen1, gen2, rulesM, rulesT, rulesQ, litR, bolR, Nat.reduceAdd, Nat.reduceLeDiff, numR, memR, valR, heapR, updR, intR, decR, extR, slR, segR, thenR, pnR, Int.reduceToNat, Int.reduceAdd, Int.reduceSub, Int.reduceLT, Int.reduceLE, Nat.reduceSub, Nat.reduceMul, Nat.reduceEqDiff]; exact okX.isT) ?_
  refine postX.is (.int .u64 (a.va : Nat)) (fun V w2 hR hd => by have e := hR.at ha la; simp (disch := first | assumption | omega | (simp only [szR, tgC_len, tgC_all, entC_len, entC_all, tvC_len, tvC_all, actC_len, actC_all] <;> omega) | rfl | decide) only [gen0, gen1, gen2, rulesM, rulesT, rulesQ, litR, bolR, Nat.reduceAdd, Nat.reduceLeDiff, numR, memR, valR, heapR, updR, intR, decR, extR, slR, segR, thenR, pnR, Int.reduceToNat, Int.reduceAdd, Int.reduceSub, Int.reduceLT, Int.reduceLE, Nat.reduceSub, Nat.reduceMul, Nat.reduceEqDiff, hd, e, actC_2]; exact okX.isT) ?_
  refine postX.is (.pointer (some ⟨ba, 3, none⟩)) (fun V w2 hR _ => by simp (disch := first | assumption | omega | (simp only [szR, tgC_len, tgC_all, entC_len, entC_all, tvC_len, tvC_all, actC_len, actC_all] <;> omega) | rfl | decide) only [gen0, gen1, gen2, rulesM, rulesT, rulesQ, litR, bolR, Nat.reduceAdd, Nat.reduceLeDiff, numR, memR, valR, heapR, updR, intR, decR, extR, slR, segR, thenR, pnR, Int.reduceToNat, Int.reduceAdd, Int.reduceSub, Int.reduceLT, Int.reduceLE, Nat.reduceSub, Nat.reduceMul, Nat.reduceEqDiff]; exact okX.isT) ?_
  refine postX.is (.agg (entC a.f a.x).toArray) (fun V w2 hR hd => by have e := hR.at ha la; simp (disch := first | assumption | omega | (simp only [szR, tgC_len, tgC_all, entC_len, entC_all, tvC_len, tvC_all, actC_len, actC_all] <;> omega) | rfl | decide) only [gen0, gen1, gen2, rulesM, rulesT, rulesQ, litR, bolR, Nat.reduceAdd, Nat.reduceLeDiff, numR, memR, valR, heapR, updR, intR, decR, extR, slR, segR, thenR, pnR, Int.reduceToNat, Int.reduceAdd, Int.reduceSub, Int.reduceLT, Int.reduceLE, Nat.reduceSub, Nat.reduceMul, Nat.reduceEqDiff, hd, e, actC_sub]; exact okX.isT) ?_
  refine postX.is vo (fun V w2 hR _ => okX.isT) ?_
  refine postX.is (.int .i64 (oth.length : Nat)) (fun V w2 hR hd => by simp (disch := first | assumption | omega | (simp only [szR, tgC_len, tgC_all, entC_len, entC_all, tvC_len, tvC_all, actC_len, actC_all] <;> omega) | rfl | decide) only [gen0, gen1, gen2, rulesM, rulesT, rulesQ, litR, bolR, Nat.reduceAdd, Nat.reduceLeDiff, numR, memR, valR, heapR, updR, intR, decR, extR, slR, segR, thenR, pnR, Int.reduceToNat, Int.reduceAdd, Int.reduceSub, Int.reduceLT, Int.reduceLE, Nat.reduceSub, Nat.reduceMul, Nat.reduceEqDiff, hd, hol2]; exact okX.isT) ?_
  refine postX.is (.int .i64 (12 - (oth.length : Nat) : Int)) (fun V w2 hR hd => by simp (disch := first | assumption | omega | (simp only [szR, tgC_len, tgC_all, entC_len, entC_all, tvC_len, tvC_all, actC_len, actC_all] <;> omega) | rfl | decide) only [gen0, gen1, gen2, rulesM, rulesT, rulesQ, litR, bolR, Nat.reduceAdd, Nat.reduceLeDiff, numR, memR, valR, heapR, updR, intR, decR, extR, slR, segR, thenR, pnR, Int.reduceToNat, Int.reduceAdd, Int.reduceSub, Int.reduceLT, Int.reduceLE, Nat.reduceSub, Nat.reduceMul, Nat.reduceEqDiff, hd]; exact okX.isT) ?_
  refine postX.is (.agg (tvC u0 u1 u2 u3).toArray) (fun V w2 hR _ => by have e := hR.at hb lb; simp (disch := first | assumption | omega | (simp only [szR, tgC_len, tgC_all, entC_len, entC_all, tvC_len, tvC_all, actC_len, actC_all] <;> omega) | rfl | decide) only [gen0, gen1, gen2, rulesM, rulesT, rulesQ, litR, bolR, Nat.reduceAdd, Nat.reduceLeDiff, numR, memR, valR, heapR, updR, intR, decR, extR, slR, segR, thenR, pnR, Int.reduceToNat, Int.reduceAdd, Int.reduceSub, Int.reduceLT, Int.reduceLE, Nat.reduceSub, Nat.reduceMul, Nat.reduceEqDiff, e, tvC_sub]; exact okX.isT) ?_
  refine postX.is (.int .i64 (1 + R.mid.length + R.low.length : Nat)) (fun V w2 hR hd => by simp (disch := first | assumption | omega | (simp only [szR, tgC_len, tgC_all, entC_len, entC_all, tvC_len, tvC_all, actC_len, actC_all] <;> omega) | rfl | decide) only [gen0, gen1, gen2, rulesM, rulesT, rulesQ, litR, bolR, Nat.reduceAdd, Nat.reduceLeDiff, numR, memR, valR, heapR, updR, intR, decR, extR, slR, segR, thenR, pnR, Int.reduceToNat, Int.reduceAdd, Int.reduceSub, Int.reduceLT, Int.reduceLE, Nat.reduceSub, Nat.reduceMul, Nat.reduceEqDiff, hd]; exact rframes_spec (hR.ref hr) (by omega) fun w3 hx => ⟨KeepT.of hx, rfl⟩) ?_
  refine postX.is (.int .i64 (12 - oth.length - (1 + R.mid.length + R.low.length) : Int)) (fun V w2 hR hd => by
    have e : (12 : Int) - (oth.length : Int) - ((1 + R.mid.length + R.low.length : Nat) : Int) = 12 - oth.length - (1 + R.mid.length + R.low.length) := by omega
    simp (disch := first | assumption | omega | (simp only [szR, tgC_len, tgC_all, entC_len, entC_all, tvC_len, tvC_all, actC_len, actC_all] <;> omega) | rfl | decide) only [gen0, gen1, gen2, rulesM, rulesT, rulesQ, litR, bolR, Nat.reduceAdd, Nat.reduceLeDiff, numR, memR, valR, heapR, updR, intR, decR, extR, slR, segR, thenR, pnR, Int.reduceToNat, Int.reduceAdd, Int.reduceSub, Int.reduceLT, Int.reduceLE, Nat.reduceSub, Nat.reduceMul, Nat.reduceEqDiff, hd, e]
    exact okX.isT) ?_
  refine postX.intro (fun v w' => ∃ t0 t1 t2 t3, v = .tuple #[.agg (tvC t0 t1 t2 t3).toArray, .int .i64 q.1] ∧ RefT w' t0 t1 t2 t3 q.2) (fun v x y hR ⟨t0, t1, t2, t3, h1, h2⟩ => ⟨t0, t1, t2, t3, h1, hR.ref h2⟩) (fun V w2 hR hd => ?_) ?_
  · simp (disch := first | assumption | omega | (simp only [szR, tgC_len, tgC_all, entC_len, entC_all, tvC_len, tvC_all, actC_len, actC_all] <;> omega) | rfl | decide) only [gen0, gen1, gen2, rulesM, rulesT, rulesQ, litR, bolR, Nat.reduceAdd, Nat.reduceLeDiff, numR, memR, valR, heapR, updR, intR, decR, extR, slR, segR, thenR, pnR, Int.reduceToNat, Int.reduceAdd, Int.reduceSub, Int.reduceLT, Int.reduceLE, Nat.reduceSub, Nat.reduceMul, Nat.reduceEqDiff, hd]
    have hr2 := hR.ref hr
    refine rset_spec hr2 hn hva hax (fun hbad w3 hx => ?_) (fun h1 h2 h3 w3 hx => ?_) fun h1 h2 h3 t0 t1 t2 t3 w3 h4 hx => ?_
    · have e : q = (2, R) := by rw [hq]; unfold outR; rw [if_pos hbad]
      rw [e]
      exact ⟨KeepT.of hx, _, _, _, _, rfl, hr2.ext hx (by simp)⟩
    · have e : q = (15, R) := by rw [hq]; unfold outR; rw [if_neg (by rw [h2]; simp [h1]), if_pos h3]
      rw [e]
      exact ⟨KeepT.of hx, _, _, _, _, rfl, hr2.ext hx (by simp)⟩
    · have e : q = (0, setR R a.va ⟨a.f, a.x⟩) := by rw [hq]; unfold outR; rw [if_neg (by rw [h2]; simp [h1]), if_neg (by omega)]
      rw [e]
      exact ⟨KeepT.of hx, _, _, _, _, rfl, h4⟩
  refine postX.intro (fun v w' => ∃ t0 t1 t2 t3, v = .tuple #[.agg (tvC t0 t1 t2 t3).toArray, .int .i64 q.1] ∧ RefT w' t0 t1 t2 t3 q.2) (fun v x y hR ⟨t0, t1, t2, t3, h1, h2⟩ => ⟨t0, t1, t2, t3, h1, hR.ref h2⟩) (fun V w2 hR hd => ⟨KeepT.refl, hd.1⟩) ?_
  refine postX.intro (fun v w' => ∃ t0 t1 t2 t3, v = .agg (tvC t0 t1 t2 t3).toArray ∧ RefT w' t0 t1 t2 t3 q.2) (fun v x y hR ⟨t0, t1, t2, t3, h1, h2⟩ => ⟨t0, t1, t2, t3, h1, hR.ref h2⟩) (fun V w2 hR hd => ?_) ?_
  · obtain ⟨⟨t0, t1, t2, t3, h1, h2⟩, -⟩ := hd
    simp (disch := first | assumption | omega | (simp only [szR, tgC_len, tgC_all, entC_len, entC_all, tvC_len, tvC_all, actC_len, actC_all] <;> omega) | rfl | decide) only [gen0, gen1, gen2, rulesM, rulesT, rulesQ, litR, bolR, Nat.reduceAdd, Nat.reduceLeDiff, numR, memR, valR, heapR, updR, intR, decR, extR, slR, segR, thenR, pnR, Int.reduceToNat, Int.reduceAdd, Int.reduceSub, Int.reduceLT, Int.reduceLE, Nat.reduceSub, Nat.reduceMul, Nat.reduceEqDiff, h1]
    exact ⟨KeepT.refl, _, _, _, _, rfl, h2⟩
  refine postX.is (.int .i64 q.1) (fun V w2 hR hd => ?_) ?_
  · obtain ⟨⟨t0, t1, t2, t3, h1, h2⟩, -⟩ := hd
    simp (disch := first | assumption | omega | (simp only [szR, tgC_len, tgC_all, entC_len, entC_all, tvC_len, tvC_all, actC_len, actC_all] <;> omega) | rfl | decide) only [gen0, gen1, gen2, rulesM, rulesT, rulesQ, litR, bolR, Nat.reduceAdd, Nat.reduceLeDiff, numR, memR, valR, heapR, updR, intR, decR, extR, slR, segR, thenR, pnR, Int.reduceToNat, Int.reduceAdd, Int.reduceSub, Int.reduceLT, Int.reduceLE, Nat.reduceSub, Nat.reduceMul, Nat.reduceEqDiff, h1]
    exact okX.isT
  refine postX.intro (fun v w' => ∃ b, v = .pointer (some ⟨b, 0, none⟩) ∧ W.heap.size ≤ b ∧ ∃ l : List Value, l.length = 4 ∧ w'.heap[b]? = some (.cells l.toArray 37 (0, 0))) (fun v x y hR ⟨b, h1, h2, l, h3, h4⟩ => ?_) (fun V w2 hR hd => ?_) ?_
  · rcases hR.tbl b _ h4 with h5 | ⟨t0, t1, t2, t3, h5, h6⟩
    · exact ⟨b, h1, h2, l, h3, h5⟩
    · exact ⟨b, h1, h2, _, tvC_len _ _ _ _, h5⟩
  · simp (disch := first | assumption | omega | (simp only [szR, tgC_len, tgC_all, entC_len, entC_all, tvC_len, tvC_all, actC_len, actC_all] <;> omega) | rfl | decide) only [gen0, gen1, gen2, rulesM, rulesT, rulesQ, litR, bolR, Nat.reduceAdd, Nat.reduceLeDiff, numR, memR, valR, heapR, updR, intR, decR, extR, slR, segR, thenR, pnR, Int.reduceToNat, Int.reduceAdd, Int.reduceSub, Int.reduceLT, Int.reduceLE, Nat.reduceSub, Nat.reduceMul, Nat.reduceEqDiff]
    exact ⟨KeepT.of (Ext.alloc Ext.refl _ _), _, rfl, hR.size, _, rfl, alloc_at rfl⟩
  refine postX.intro (fun v w' => ∃ b t0 t1 t2 t3, v = .pointer (some ⟨b, 0, none⟩) ∧ W.heap.size ≤ b ∧ w'.heap[b]? = some (.cells (tvC t0 t1 t2 t3).toArray 37 (0, 0)) ∧ RefT w' t0 t1 t2 t3 q.2) (fun v x y hR ⟨b, t0, t1, t2, t3, h1, h2, h3, h4⟩ => ?_) (fun V w2 hR hd => ?_) ?_
  · rcases hR.tbl b _ h3 with h5 | ⟨s0, s1, s2, s3, h5, h6⟩
    · exact ⟨b, t0, t1, t2, t3, h1, h2, h5, hR.ref h4⟩
    · exact ⟨b, s0, s1, s2, s3, h1, h2, h5, h6⟩
  · obtain ⟨-, -, -, -, -, -, -, -, -, -, -, -, -, ⟨t0, t1, t2, t3, h1, h2⟩, ⟨b, h3, h4, l, h5, h6⟩, -⟩ := hd
    obtain ⟨b0, b1, b2, b3, d0, d1, d2, d3, rfl, rfl, rfl, rfl⟩ := h2.slices
    have lb6 := lt_of_at h6
    have hdr : ∀ t0 t1 t2 t3, tvC t0 t1 t2 t3 ++ List.drop (tvC t0 t1 t2 t3).length l = tvC t0 t1 t2 t3 := fun t0 t1 t2 t3 => by rw [tvC_len, List.drop_of_length_le (by omega), List.append_nil]
    simp (disch := first | assumption | omega | (simp only [szR, tgC_len, tgC_all, entC_len, entC_all, tvC_len, tvC_all, actC_len, actC_all] <;> omega) | rfl | decide) only [gen0, gen1, gen2, rulesM, rulesT, rulesQ, litR, bolR, Nat.reduceAdd, Nat.reduceLeDiff, numR, memR, valR, heapR, updR, intR, decR, extR, slR, segR, thenR, pnR, Int.reduceToNat, Int.reduceAdd, Int.reduceSub, Int.reduceLT, Int.reduceLE, Nat.reduceSub, Nat.reduceMul, Nat.reduceEqDiff, h1, h3, h6, hdr]
    obtain ⟨L, hL⟩ : ∃ L, L = tvC (.slice b0 q.2.ps.length d0) (.slice b1 q.2.ps.length d1) (.slice b2 q.2.mid.length d2) (.slice b3 q.2.low.length d3) := ⟨_, rfl⟩
    have hxu : Ext [b] w2 (World.upd w2 b L) := Ext.updI (by simp) Ext.refl
    have hru : RefT (World.upd w2 b L) (.slice b0 q.2.ps.length d0) (.slice b1 q.2.ps.length d1) (.slice b2 q.2.mid.length d2) (.slice b3 q.2.low.length d3) q.2 := ⟨own_box h2.ps h6 (by decide) hxu, own_box h2.es h6 (by decide) hxu, own_box h2.mid h6 (by decide) hxu, own_box h2.low h6 (by decide) hxu⟩
    rw [← hL]
    refine ⟨⟨rfl, rfl, rfl, by rw [upd_size]; exact Nat.le_refl _, fun k hk _ => upd_ne (by omega), fun k l' E hk hE => ?_, fun k l' hk => ?_⟩, b, _, _, _, _, rfl, h4, ?_, hru⟩
    · exact hxu.at hk (fun hm => at_ne hk h6 hE (List.mem_singleton.1 hm))
    · by_cases hkb : k = b
      · subst hkb
        exact .inr ⟨_, _, _, _, by rw [hL]; exact upd_at h6, hru⟩
      · exact .inl ((upd_ne hkb).trans hk)
    · rw [hL]
      exact upd_at h6
  intro V w2 hR hd _
  obtain ⟨-, -, -, -, -, -, -, -, -, -, -, -, -, -, d96, -, ⟨b, t0, t1, t2, t3, h1, h2, h3, h4⟩, -⟩ := hd
  rw [h1, d96]
  exact hJ b t0 t1 t2 t3 w2 h4 h3 (by omega) (hxd.trans hR.ext (by simp))
end Go.Proofs.Ytfpcflmgipklcaa
