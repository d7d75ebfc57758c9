/- What is painted has all its addresses, what is wiped none; its own spans paint it again; many at once are as one by one; conditions: those of each theorem. -/
import Derived.Test.YtgnibcaflidjmaaSKC
namespace Go.Proofs.Ytgnibcaflidjmaa
open Go.Fx Go.ChangeShapes Go.WideShapes
set_option maxRecDepth 100000
set_option linter.unusedSimpArgs false
set_option linter.unusedVariables false
set_option maxHeartbeats 2000000 in
theorem pback_spec {w : World} {v0 : Value} {l0 : List (Nat × Nat)} {s : Nat × Nat} (hv0 : RowsAt w v0 2 (l0.map spC)) (hl0 : ∀ s ∈ l0, spOk s) (hs : spOk s) {K : Value → World → Prop} (hK : ∀ w', Ext [] w w' → K (.bool true) w') :
    callsK Try.prog 7 #[v0, .agg (spC s).toArray] w K := by
  apply F7_ok
  unfold F7
  have e1 : ∀ x : Value, sub [x] 0 1 = [x] := fun _ => rfl
  have e1b : ∀ x y : Value, splice [x] 0 [y] = [y] := fun _ _ => rfl
  have e2 : ∀ s : Nat × Nat, sub (spC s) 0 2 = spC s := fun _ => rfl
  have e3 : ∀ s : Nat × Nat, (spC s).length = 2 := fun _ => rfl
  have hxW : Ext [] w (w.alloc (.cells (spC s).toArray 47)) := Ext.alloc Ext.refl _ _
  have h3W : (w.alloc (.cells (spC s).toArray 47)).heap[w.heap.size]? = some (.cells (spC s).toArray 47 (0, 0)) := alloc_at rfl
  simp (disch := first | assumption | omega | (simp only [szR, tgC_len, tgC_all, tsC_len, tsC_all, spC_len] <;> omega) | rfl | decide) only [gen0, gen1, gen2, rulesV, rulesM, litR, bolR, Nat.reduceAdd, Nat.reduceLeDiff, numR, memR, valR, heapR, updR, intR, decR, extR, slR, segR, thenR, pnR, Int.reduceToNat, Int.reduceAdd, Int.reduceSub, Int.reduceLT, Int.reduceLE, Nat.reduceSub, Nat.reduceMul, Nat.reduceEqDiff, e2, e3]
  generalize w.alloc (.cells (spC s).toArray 47) = W at hxW h3W ⊢
  generalize w.heap.size = b3 at h3W ⊢
  refine joinL.intro fun J0 hJ0 => ?_
  have HJ0 : ∀ v (l : List (Nat × Nat)), RowsAt W v 2 (l.map spC) → (∀ s ∈ l, spOk s) → l.length ≤ 12 → J0 [v] W := by
    intro v l hv hl hl12
    apply hJ0
    intro _
    clear hJ0
    have hx1 : Ext [] W ((W.alloc (.cells [.map none].toArray 50)).alloc (.cells [.map none].toArray 50)) := (Ext.alloc Ext.refl _ _ : Ext [] W (W.alloc (.cells [.map none].toArray 50))).allocI
    simp (disch := first | assumption | omega | (simp only [szR, tgC_len, tgC_all, tsC_len, tsC_all, spC_len] <;> omega) | rfl | decide) only [gen0, gen1, gen2, rulesV, rulesM, litR, bolR, Nat.reduceAdd, Nat.reduceLeDiff, numR, memR, valR, heapR, updR, intR, decR, extR, slR, segR, thenR, pnR, Int.reduceToNat, Int.reduceAdd, Int.reduceSub, Int.reduceLT, Int.reduceLE, Nat.reduceSub, Nat.reduceMul, Nat.reduceEqDiff, e1]
    refine paint_spec (bm_none _) (hv.ext hx1 (by simp)) hl fun mb w2 hB hx2 => ?_
    have h52 := hx2.at (b := W.heap.size) (o := .cells [.map none].toArray 50 (0, 0)) (by first | with_reducible rfl | assumption | (simp (disch := first | assumption | omega | (simp only [szR, tgC_len, tgC_all, tsC_len, tsC_all, spC_len] <;> omega) | rfl | decide) only [gen0, gen1, gen2, rulesV, rulesM, litR, bolR, Nat.reduceAdd, Nat.reduceLeDiff, numR, memR, valR, heapR, updR, intR, decR, extR, slR, segR, thenR, pnR, Int.reduceToNat, Int.reduceAdd, Int.reduceSub, Int.reduceLT, Int.reduceLE, Nat.reduceSub, Nat.reduceMul, Nat.reduceEqDiff] <;> rfl)) (by simp)
    have h62 := hx2.at (b := W.heap.size + 1) (o := .cells [.map none].toArray 50 (0, 0)) (by first | with_reducible rfl | assumption | (simp (disch := first | assumption | omega | (simp only [szR, tgC_len, tgC_all, tsC_len, tsC_all, spC_len] <;> omega) | rfl | decide) only [gen0, gen1, gen2, rulesV, rulesM, litR, bolR, Nat.reduceAdd, Nat.reduceLeDiff, numR, memR, valR, heapR, updR, intR, decR, extR, slR, segR, thenR, pnR, Int.reduceToNat, Int.reduceAdd, Int.reduceSub, Int.reduceLT, Int.reduceLE, Nat.reduceSub, Nat.reduceMul, Nat.reduceEqDiff] <;> rfl)) (by simp)
    have hx3 := hx1.trans hx2 (by simp)
    have lt52 := lt_of_at h52
    have lt62 := lt_of_at h62
    simp (disch := first | assumption | omega | (simp only [szR, tgC_len, tgC_all, tsC_len, tsC_all, spC_len] <;> omega) | rfl | decide) only [gen0, gen1, gen2, rulesV, rulesM, litR, bolR, Nat.reduceAdd, Nat.reduceLeDiff, numR, memR, valR, heapR, updR, intR, decR, extR, slR, segR, thenR, pnR, Int.reduceToNat, Int.reduceAdd, Int.reduceSub, Int.reduceLT, Int.reduceLE, Nat.reduceSub, Nat.reduceMul, Nat.reduceEqDiff, h52, e1b]
    have hne5 := Bm.ne' hB h52
    have hxu : Ext [W.heap.size] w2 (World.upd w2 W.heap.size [.map (some mb)]) := Ext.updI (by simp) Ext.refl
    have h5 := upd_at (l := [.map (some mb)]) h52
    have h6 := hxu.at h62 (by simp)
    have hB3 : Bm _ (some mb) (bl l) := hB.ext hxu (fun m' e => by cases e; simpa using hne5)
    have hx4 : Ext [] W (World.upd w2 W.heap.size [.map (some mb)]) := hx3.trans hxu (fun k hk => .inr (by rw [List.mem_singleton.1 hk]; exact Nat.le_refl _))
    generalize World.upd w2 W.heap.size [.map (some mb)] = w3 at h5 h6 hB3 hx4 ⊢
    clear hxu hne5 hB h52 h62 lt52 lt62 hx3 hx2 hx1
    obtain ⟨a, c, rfl⟩ := hv.len
    rw [List.length_map] at hv ⊢
    obtain ⟨b5, hb5⟩ : ∃ b5, b5 = W.heap.size := ⟨_, rfl⟩
    obtain ⟨b6, hb6⟩ : ∃ b6, b6 = W.heap.size + 1 := ⟨_, rfl⟩
    rw [← hb6] at h6 ⊢
    rw [← hb5] at h5 ⊢
    refine loopT.intro (fun st w' => ∃ (i : Nat) (o : Option Nat), i ≤ l.length ∧ st = [.int .i64 (i : Nat)] ∧ w'.heap[b5]? = some (.cells [.map (some mb)].toArray 50 (0, 0)) ∧ w'.heap[b6]? = some (.cells [.map o].toArray 50 (0, 0)) ∧ Bm w' (some mb) (bl l) ∧ Bm w' o (bl (l.take i)) ∧ Ext [] W w')
      (fun st _ => match st with
        | [.int _ y] => l.length - y.toNat
        | _ => 0) ⟨0, none, Nat.zero_le _, rfl, h5, h6, hB3, fun _ => rfl, hx4⟩ ?_
    clear h5 h6 hB3 hx4
    rintro st w4 ⟨i, o, hi, rfl, h5, h6, hB, hC, hx⟩ _
    have hvi := hv.ext hx (by simp)
    by_cases hil : i < l.length
    · have d : decide (((i : Nat) : Int) < ((l.length : Nat) : Int)) = true := decide_eq_true (by omega)
      have ei : ((i : Nat) : Int) + 1 = ((i + 1 : Nat) : Int) := by omega
      simp (disch := first | assumption | omega | (simp only [szR, tgC_len, tgC_all, tsC_len, tsC_all, spC_len] <;> omega) | rfl | decide) only [gen0, gen1, gen2, rulesV, rulesM, litR, bolR, Nat.reduceAdd, Nat.reduceLeDiff, numR, memR, valR, heapR, updR, intR, decR, extR, slR, segR, thenR, pnR, Int.reduceToNat, Int.reduceAdd, Int.reduceSub, Int.reduceLT, Int.reduceLE, Nat.reduceSub, Nat.reduceMul, Nat.reduceEqDiff, joinBR, d]
      refine joinL.intro fun J4 hJ4 => ?_
      refine onep_region (b6 := b6) hvi hl hil h6 hC rfl rfl rfl fun m w5 k1 k2 k3 => ?_
      apply hJ4
      intro _
      simp (disch := first | assumption | omega | (simp only [szR, tgC_len, tgC_all, tsC_len, tsC_all, spC_len] <;> omega) | rfl | decide) only [gen0, gen1, gen2, rulesV, rulesM, litR, bolR, Nat.reduceAdd, Nat.reduceLeDiff, numR, memR, valR, heapR, updR, intR, decR, extR, slR, segR, thenR, pnR, Int.reduceToNat, Int.reduceAdd, Int.reduceSub, Int.reduceLT, Int.reduceLE, Nat.reduceSub, Nat.reduceMul, Nat.reduceEqDiff, joinBR, ei]
      have hne := Bm.ne' hB h6
      exact ⟨⟨i + 1, some m, by omega, rfl, k3.at h5 (by simp; omega), k1, hB.ext k3 (fun m' e => by cases e; simpa using hne), by
        have e : bl (l.take (i + 1)) = wth orB (bl (l.take i)) l[i] := by rw [List.take_succ_eq_append_getElem hil, bl, List.foldl_append]; rfl
        rw [e]
        exact k2, hx.trans k3 (fun k hk => .inr (by have := List.mem_singleton.1 hk; omega))⟩, by omega⟩
    have d : decide (((i : Nat) : Int) < ((l.length : Nat) : Int)) = false := decide_eq_false (by omega)
    have e : i = l.length := by omega
    subst e
    rw [List.take_length] at hC
    clear hvi hil
    simp (disch := first | assumption | omega | (simp only [szR, tgC_len, tgC_all, tsC_len, tsC_all, spC_len] <;> omega) | rfl | decide) only [gen0, gen1, gen2, rulesV, rulesM, litR, bolR, Nat.reduceAdd, Nat.reduceLeDiff, numR, memR, valR, heapR, updR, intR, decR, extR, slR, segR, thenR, pnR, Int.reduceToNat, Int.reduceAdd, Int.reduceSub, Int.reduceLT, Int.reduceLE, Nat.reduceSub, Nat.reduceMul, Nat.reduceEqDiff, joinBR, d, h5, e1]
    clear d
    refine Spans_spec hB (N := 768) (fun ys hy => by have := bl_pages hy; omega) (by omega) (fun k hk => by obtain ⟨s, -, -, -, h⟩ := bl_page hk; exact h) fun u l1 w5 ho hcov hll hF hx5 => ?_
    refine paint_spec (bm_none _) (rowsU ho.rows) (fun t ht => by have := up_wf hcov t ht; exact ⟨by omega, by omega⟩) fun ma w6 hA hx6 => ?_
    have hx7 := hx5.trans hx6 (by simp)
    have hxa : Ext [] w6 (w6.alloc (.cells [.map (some ma)].toArray 50)) := Ext.alloc Ext.refl _ _
    have h8 : (w6.alloc (.cells [.map (some ma)].toArray 50)).heap[w6.heap.size]? = some (.cells [.map (some ma)].toArray 50 (0, 0)) := alloc_at rfl
    have hx8 := hx7.trans hxa (by simp)
    simp (disch := first | assumption | omega | (simp only [szR, tgC_len, tgC_all, tsC_len, tsC_all, spC_len] <;> omega) | rfl | decide) only [gen0, gen1, gen2, rulesV, rulesM, litR, bolR, Nat.reduceAdd, Nat.reduceLeDiff, numR, memR, valR, heapR, updR, intR, decR, extR, slR, segR, thenR, pnR, Int.reduceToNat, Int.reduceAdd, Int.reduceSub, Int.reduceLT, Int.reduceLE, Nat.reduceSub, Nat.reduceMul, Nat.reduceEqDiff, e1b]
    refine joinL.intro fun J7 hJ7 => ?_
    refine counts_region (b5 := b5) (b6 := b6) (b8 := w6.heap.size) (l1 := l1) hl12 (hx8.at h5 (by simp)) (hx8.at h6 (by simp)) h8 (hB.ext0 hx8) (hC.ext0 hx8) (Bm.ext0 hA hxa) hcov hF rfl rfl rfl fun w9 hx9 => ?_
    have hx10 := hx.trans (hx8.trans hx9 (by simp)) (by simp)
    have h59 := (hx8.trans hx9 (by simp)).at h5 (by simp)
    have hB9 := hB.ext0 (hx8.trans hx9 (by simp))
    apply hJ7
    intro _
    clear hJ7 hA hF hcov ho h5 h6 hC hB h8 hxa hx6 hx7 hx5 hx8 hx9
    have h39 := hx10.at h3W (by simp)
    have g0 : (spC s)[0]? = some (.int .u64 (s.1 : Nat)) := rfl
    have g1 : (spC s)[1]? = some (.int .u64 (s.2 : Nat)) := rfl
    have hv9 := hv.ext hx10 (by simp)
    have HF : ∀ (s0 : List Value) (v5 : Value), s0 = [.slice a l.length c] → v5 = .pointer (some ⟨b5, 0, none⟩) → ∀ w', Ext [] w9 w' → ((fun s11 w => ∀ _ : Nat → Value,
  kV Try.prog (Instr.loadAt 50 v5) w fun v109 w =>
  kN Try.prog (callN (.func (.func 19) #[] #[]) #[v109, (s0.getD 0 undef)]) w fun v111 w =>
  kV Try.prog (Instr.alloc 50 true (.tuple #[])) w fun v14 w =>
  kU Try.prog (Instr.storeAt 50 v14 v111) w fun _ w =>
  kV Try.prog (Instr.loadAt 50 v14) w fun v112 w =>
  kN Try.prog (callN (.func (.func 21) #[] #[]) #[v112]) w fun v113 w =>
  kV Try.prog (binV .eql 3 (.tmp 113) (.const (.int .i64 0)) v113 (.int .i64 0)) w fun v114 w =>
  joinK (fun J13 : Value → World → Prop => gdK (yb v114) true (fun k => kV Try.prog (Instr.loadAt 50 v14) w k) w fun v116 w =>
  gdK (yb v114) true (fun k => kN Try.prog (callN (.func (.func 23) #[] #[]) #[v116]) w k) w fun v117 w =>
  gdK (yb v114) true (fun k => kV Try.prog (Builtin.len_ #[55] 3 #[v117]) w k) w fun v118 w =>
  gdK (yb v114) true (fun k => kV Try.prog (binV .eql 3 (.tmp 118) (.const (.int .i64 0)) v118 (.int .i64 0)) w k) w fun v119 w =>
  kN Try.prog (pickN v114 v119 (.bool false)) w fun v120_1 w =>
  J13 v120_1 w) fun v120 w =>
  joinK (fun J14 : Value → World → Prop => gdK (yb v120) true (fun k => kN Try.prog (callN (.func (.func 22) #[] #[]) #[]) w k) w fun v122 w =>
  kN Try.prog (pickN v120 v122 (.bool false)) w fun v123_1 w =>
  J14 v123_1 w) fun v123 w =>
  K v123 w) : List Value → World → Prop) [] w' := by
      intro s0 v5 q1 q2 w' hx'
      exact fin_cont (hv9.ext hx' (by simp)) hl (hx'.at h59 (by simp)) (hB9.ext0 hx') q1 q2 fun w'' hx'' => hK w'' (hxW.trans ((hx10.trans hx' (by simp)).trans hx'' (by simp)) (by simp))
    by_cases c1 : s.1 < s.2
    rotate_left
    · have d : decide (((s.1 : Nat) : Int) < ((s.2 : Nat) : Int)) = false := decide_eq_false (by omega)
      simp (disch := first | assumption | omega | (simp only [szR, tgC_len, tgC_all, tsC_len, tsC_all, spC_len] <;> omega) | rfl | decide) only [gen0, gen1, gen2, rulesV, rulesM, litR, bolR, Nat.reduceAdd, Nat.reduceLeDiff, numR, memR, valR, heapR, updR, intR, decR, extR, slR, segR, thenR, pnR, Int.reduceToNat, Int.reduceAdd, Int.reduceSub, Int.reduceLT, Int.reduceLE, Nat.reduceSub, Nat.reduceMul, Nat.reduceEqDiff, joinBR, h39, g0, g1, d]
      refine joinL.intro fun J11 hJ11 => ?_
      try simp (disch := first | assumption | omega | (simp only [szR, tgC_len, tgC_all, tsC_len, tsC_all, spC_len] <;> omega) | rfl | decide) only [gen0, gen1, gen2, rulesV, rulesM, litR, bolR, Nat.reduceAdd, Nat.reduceLeDiff, numR, memR, valR, heapR, updR, intR, decR, extR, slR, segR, thenR, pnR, Int.reduceToNat, Int.reduceAdd, Int.reduceSub, Int.reduceLT, Int.reduceLE, Nat.reduceSub, Nat.reduceMul, Nat.reduceEqDiff, joinBR, Bool.false_eq_true, if_false, if_true]
      apply hJ11
      exact HF _ _ rfl rfl w9 Ext.refl
    have d : decide (((s.1 : Nat) : Int) < ((s.2 : Nat) : Int)) = true := decide_eq_true (by omega)
    by_cases c2 : s.2 ≤ 274877906944
    rotate_left
    · have d2 : decide (((s.2 : Nat) : Int) ≤ 274877906944) = false := decide_eq_false (by omega)
      simp (disch := first | assumption | omega | (simp only [szR, tgC_len, tgC_all, tsC_len, tsC_all, spC_len] <;> omega) | rfl | decide) only [gen0, gen1, gen2, rulesV, rulesM, litR, bolR, Nat.reduceAdd, Nat.reduceLeDiff, numR, memR, valR, heapR, updR, intR, decR, extR, slR, segR, thenR, pnR, Int.reduceToNat, Int.reduceAdd, Int.reduceSub, Int.reduceLT, Int.reduceLE, Nat.reduceSub, Nat.reduceMul, Nat.reduceEqDiff, joinBR, h39, g0, g1, d, d2]
      refine joinL.intro fun J11 hJ11 => ?_
      try simp (disch := first | assumption | omega | (simp only [szR, tgC_len, tgC_all, tsC_len, tsC_all, spC_len] <;> omega) | rfl | decide) only [gen0, gen1, gen2, rulesV, rulesM, litR, bolR, Nat.reduceAdd, Nat.reduceLeDiff, numR, memR, valR, heapR, updR, intR, decR, extR, slR, segR, thenR, pnR, Int.reduceToNat, Int.reduceAdd, Int.reduceSub, Int.reduceLT, Int.reduceLE, Nat.reduceSub, Nat.reduceMul, Nat.reduceEqDiff, joinBR, Bool.false_eq_true, if_false, if_true]
      apply hJ11
      exact HF _ _ rfl rfl w9 Ext.refl
    have d2 : decide (((s.2 : Nat) : Int) ≤ 274877906944) = true := decide_eq_true (by omega)
    have f1 : ((s.2 : Nat) : Int) - (s.1 : Int) = ((s.2 - s.1 : Nat) : Int) := by omega
    by_cases c3 : s.2 - s.1 ≤ 100000
    rotate_left
    · have d3 : decide (((s.2 - s.1 : Nat) : Int) ≤ 100000) = false := decide_eq_false (by omega)
      simp (disch := first | assumption | omega | (simp only [szR, tgC_len, tgC_all, tsC_len, tsC_all, spC_len] <;> omega) | rfl | decide) only [gen0, gen1, gen2, rulesV, rulesM, litR, bolR, Nat.reduceAdd, Nat.reduceLeDiff, numR, memR, valR, heapR, updR, intR, decR, extR, slR, segR, thenR, pnR, Int.reduceToNat, Int.reduceAdd, Int.reduceSub, Int.reduceLT, Int.reduceLE, Nat.reduceSub, Nat.reduceMul, Nat.reduceEqDiff, joinBR, h39, g0, g1, d, d2, f1, d3]
      refine joinL.intro fun J11 hJ11 => ?_
      try simp (disch := first | assumption | omega | (simp only [szR, tgC_len, tgC_all, tsC_len, tsC_all, spC_len] <;> omega) | rfl | decide) only [gen0, gen1, gen2, rulesV, rulesM, litR, bolR, Nat.reduceAdd, Nat.reduceLeDiff, numR, memR, valR, heapR, updR, intR, decR, extR, slR, segR, thenR, pnR, Int.reduceToNat, Int.reduceAdd, Int.reduceSub, Int.reduceLT, Int.reduceLE, Nat.reduceSub, Nat.reduceMul, Nat.reduceEqDiff, joinBR, Bool.false_eq_true, if_false, if_true]
      apply hJ11
      exact HF _ _ rfl rfl w9 Ext.refl
    have d3 : decide (((s.2 - s.1 : Nat) : Int) ≤ 100000) = true := decide_eq_true (by omega)
    simp (disch := first | assumption | omega | (simp only [szR, tgC_len, tgC_all, tsC_len, tsC_all, spC_len] <;> omega) | rfl | decide) only [gen0, gen1, gen2, rulesV, rulesM, litR, bolR, Nat.reduceAdd, Nat.reduceLeDiff, numR, memR, valR, heapR, updR, intR, decR, extR, slR, segR, thenR, pnR, Int.reduceToNat, Int.reduceAdd, Int.reduceSub, Int.reduceLT, Int.reduceLE, Nat.reduceSub, Nat.reduceMul, Nat.reduceEqDiff, joinBR, h39, g0, g1, d, d2, f1, d3]
    refine joinL.intro fun J11 hJ11 => ?_
    have HJ11 : ∀ w', Ext [] w9 w' → J11 [] w' := fun w' hx' => hJ11 _ _ (HF _ _ rfl rfl w' hx')
    clear hJ11 HF
    try simp (disch := first | assumption | omega | (simp only [szR, tgC_len, tgC_all, tsC_len, tsC_all, spC_len] <;> omega) | rfl | decide) only [gen0, gen1, gen2, rulesV, rulesM, litR, bolR, Nat.reduceAdd, Nat.reduceLeDiff, numR, memR, valR, heapR, updR, intR, decR, extR, slR, segR, thenR, pnR, Int.reduceToNat, Int.reduceAdd, Int.reduceSub, Int.reduceLT, Int.reduceLE, Nat.reduceSub, Nat.reduceMul, Nat.reduceEqDiff, joinBR, Bool.false_eq_true, if_false, if_true]
    refine joinL.intro fun J15 hJ15 => ?_
    refine pw_region (b5 := b5) (b3 := b3) hs h59 h39 hB9 rfl rfl fun b10 b11 mp mw w10 h10 h11 hP hQ hx11 => ?_
    have h3a := hx11.at h39 (by simp)
    apply hJ15
    intro _
    clear hJ15
    refine loopT.intro (fun st w' => ∃ k : Nat, k ≤ 5 ∧ st = [.int .u64 (k : Nat)] ∧ Ext [] w10 w')
      (fun st _ => match st with
        | [.int _ y] => 5 - y.toNat
        | _ => 0) ⟨0, by omega, rfl, Ext.refl⟩ ?_
    rintro st w11 ⟨k, hk, rfl, hx12⟩ _
    by_cases hk5 : k < 5
    rotate_left
    · have d4 : decide (((k : Nat) : Int) < 5) = false := decide_eq_false (by omega)
      simp (disch := first | assumption | omega | (simp only [szR, tgC_len, tgC_all, tsC_len, tsC_all, spC_len] <;> omega) | rfl | decide) only [gen0, gen1, gen2, rulesV, rulesM, litR, bolR, Nat.reduceAdd, Nat.reduceLeDiff, numR, memR, valR, heapR, updR, intR, decR, extR, slR, segR, thenR, pnR, Int.reduceToNat, Int.reduceAdd, Int.reduceSub, Int.reduceLT, Int.reduceLE, Nat.reduceSub, Nat.reduceMul, Nat.reduceEqDiff, joinBR, d4]
      exact HJ11 w11 (hx11.trans hx12 (by simp))
    have d4 : decide (((k : Nat) : Int) < 5) = true := decide_eq_true (by omega)
    have h3b := hx12.at h3a (by simp)
    have h10b := hx12.at h10 (by simp)
    have h11b := hx12.at h11 (by simp)
    obtain ⟨D, hD⟩ : ∃ D, D = s.2 - s.1 - 1 := ⟨_, rfl⟩
    obtain ⟨E, hE⟩ : ∃ E, E = D * k := ⟨_, rfl⟩
    have hE4 : E ≤ D * 4 := by rw [hE]; exact Nat.mul_le_mul_left D (by omega)
    have f2 : ((s.2 - s.1 : Nat) : Int) - 1 = ((D : Nat) : Int) := by omega
    have f3 : ((D : Nat) : Int) * ((k : Nat) : Int) = ((E : Nat) : Int) := by rw [hE]; simp
    have f4 : ((E : Nat) : Int).tdiv 4 = ((E / 4 : Nat) : Int) := by
      rw [Int.tdiv_eq_ediv_of_nonneg (by omega)]
      omega
    have f5 : ((E : Nat) : Int) / 4 = ((E / 4 : Nat) : Int) := by omega
    have f6 : ((s.1 : Nat) : Int) + ((E / 4 : Nat) : Int) = ((s.1 + E / 4 : Nat) : Int) := by omega
    have f7 : ((k : Nat) : Int) + 1 = ((k + 1 : Nat) : Int) := by omega
    have hin : (mayS s && inS s ((s.1 + E / 4) / 16)) = true := by
      unfold mayS inS
      rw [Bool.and_eq_true, decide_eq_true_eq, decide_eq_true_eq]
      omega
    have hp : wth orB (bl l) s ((s.1 + E / 4) / 16) = true := by
      unfold wth orB
      rw [hin, Bool.or_true]
    have hq : wth lessB (bl l) s ((s.1 + E / 4) / 16) = false := by
      unfold wth lessB
      rw [hin, Bool.not_true, Bool.and_false]
    clear hE
    simp (disch := first | assumption | omega | (simp only [szR, tgC_len, tgC_all, tsC_len, tsC_all, spC_len] <;> omega) | rfl | decide) only [gen0, gen1, gen2, rulesV, rulesM, litR, bolR, Nat.reduceAdd, Nat.reduceLeDiff, numR, memR, valR, heapR, updR, intR, decR, extR, slR, segR, thenR, pnR, Int.reduceToNat, Int.reduceAdd, Int.reduceSub, Int.reduceLT, Int.reduceLE, Nat.reduceSub, Nat.reduceMul, Nat.reduceEqDiff, joinBR, d4, h3b, g0, g1, f1, f2, f3, f4, f5, f6, h10b, e1]
    refine has_spec (hP.ext0 hx12) (by omega) fun w12 hx13 => ?_
    rw [hp]
    have h11c := hx13.at h11b (by simp)
    simp (disch := first | assumption | omega | (simp only [szR, tgC_len, tgC_all, tsC_len, tsC_all, spC_len] <;> omega) | rfl | decide) only [gen0, gen1, gen2, rulesV, rulesM, litR, bolR, Nat.reduceAdd, Nat.reduceLeDiff, numR, memR, valR, heapR, updR, intR, decR, extR, slR, segR, thenR, pnR, Int.reduceToNat, Int.reduceAdd, Int.reduceSub, Int.reduceLT, Int.reduceLE, Nat.reduceSub, Nat.reduceMul, Nat.reduceEqDiff, joinBR, h11c, e1, Bool.not_true]
    refine has_spec (hQ.ext0 (hx12.trans hx13 (by simp))) (by omega) fun w13 hx14 => ?_
    rw [hq]
    simp (disch := first | assumption | omega | (simp only [szR, tgC_len, tgC_all, tsC_len, tsC_all, spC_len] <;> omega) | rfl | decide) only [gen0, gen1, gen2, rulesV, rulesM, litR, bolR, Nat.reduceAdd, Nat.reduceLeDiff, numR, memR, valR, heapR, updR, intR, decR, extR, slR, segR, thenR, pnR, Int.reduceToNat, Int.reduceAdd, Int.reduceSub, Int.reduceLT, Int.reduceLE, Nat.reduceSub, Nat.reduceMul, Nat.reduceEqDiff, joinBR, f7]
    exact ⟨⟨k + 1, by omega, rfl, (hx12.trans hx13 (by simp)).trans hx14 (by simp)⟩, by omega⟩
  have hvW := hv0.ext hxW (by simp)
  obtain ⟨a, c, rfl⟩ := hv0.len
  by_cases h12 : 12 < l0.length
  · have d : decide ((12 : Int) < ((l0.length : Nat) : Int)) = true := decide_eq_true (by omega)
    obtain ⟨v', hcut, hrows, -⟩ := RowsAt.cut Try.underlying55 Try.sizeOf47 hvW (lo := none) (hi := some (.int .i64 12)) (l := 0) (h := 12) (by omega) (by simp; omega) (.inl ⟨rfl, rfl⟩) (.inr ⟨_, _, rfl, rfl⟩)
    rw [List.length_map] at hcut ⊢
    simp (disch := first | assumption | omega | (simp only [szR, tgC_len, tgC_all, tsC_len, tsC_all, spC_len] <;> omega) | rfl | decide) only [gen0, gen1, gen2, rulesV, rulesM, litR, bolR, Nat.reduceAdd, Nat.reduceLeDiff, numR, memR, valR, heapR, updR, intR, decR, extR, slR, segR, thenR, pnR, Int.reduceToNat, Int.reduceAdd, Int.reduceSub, Int.reduceLT, Int.reduceLE, Nat.reduceSub, Nat.reduceMul, Nat.reduceEqDiff, joinBR, d, hcut]
    refine HJ0 v' (l0.take 12) ?_ (fun t ht => hl0 t (List.mem_of_mem_take ht)) (by rw [List.length_take]; omega)
    have := hrows W hvW
    rw [List.drop_zero, ← List.map_take] at this
    exact this
  · have d : decide ((12 : Int) < ((l0.length : Nat) : Int)) = false := decide_eq_false (by omega)
    rw [List.length_map] at hvW ⊢
    simp (disch := first | assumption | omega | (simp only [szR, tgC_len, tgC_all, tsC_len, tsC_all, spC_len] <;> omega) | rfl | decide) only [gen0, gen1, gen2, rulesV, rulesM, litR, bolR, Nat.reduceAdd, Nat.reduceLeDiff, numR, memR, valR, heapR, updR, intR, decR, extR, slR, segR, thenR, pnR, Int.reduceToNat, Int.reduceAdd, Int.reduceSub, Int.reduceLT, Int.reduceLE, Nat.reduceSub, Nat.reduceMul, Nat.reduceEqDiff, joinBR, d]
    exact HJ0 _ l0 hvW hl0 (by omega)
end Go.Proofs.Ytgnibcaflidjmaa
