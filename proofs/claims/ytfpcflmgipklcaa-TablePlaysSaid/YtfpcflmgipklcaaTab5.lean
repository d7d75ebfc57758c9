/- Tables: an entry laid; conditions: those of each theorem. -/
import Derived.Test.YtfpcflmgipklcaaTab4
namespace Go.Proofs.Ytfpcflmgipklcaa
open Go.Fx
set_option maxRecDepth 100000
set_option linter.unusedSimpArgs false
set_option linter.unusedVariables false
/-- tables hold no more frames than there are. -/
theorem nodup_le : ∀ {n : Nat} {fs : List Nat}, fs.Nodup → (∀ f ∈ fs, f < n) → fs.length ≤ n
  | 0, [], _, _ => Nat.le_refl _
  | 0, a :: l, _, h => absurd (h a (by simp)) (by omega)
  | n + 1, fs, h1, h2 => by
    have h3 := nodup_le (n := n) (h1.erase n) (fun f hf => by
      have h4 := (List.Nodup.mem_erase_iff h1).1 hf
      have := h2 f h4.2
      omega)
    have h5 : fs.length ≤ (fs.erase n).length + 1 := by
      by_cases h : n ∈ fs
      · rw [List.length_erase_of_mem h]
        omega
      · rw [List.erase_of_not_mem h]
        omega
    omega
theorem full_le {t : Nat} : ∀ {n : Nat}, (∀ j, j < n → t.testBit j = true) → n ≤ cntK t n
  | 0, _ => by omega
  | n + 1, h => by
    rw [cntK_succ, h n (by omega)]
    have := full_le (n := n) fun j hj => h j (by omega)
    simp
    omega
theorem cntK_mono {x a : Nat} : ∀ {b : Nat}, a ≤ b → cntK x a ≤ cntK x b
  | 0, h => by rw [show a = 0 by omega]; exact Nat.le_refl _
  | b + 1, h => by
    by_cases e : a = b + 1
    · rw [e]; exact Nat.le_refl _
    · have := cntK_mono (x := x) (a := a) (b := b) (by omega)
      rw [cntK_succ]
      omega
set_option maxHeartbeats 1000000
theorem lay_loop {w0 w w4 : World} {tb r q p n root va bb : Nat} {oth : List Nat} {m m4 g4 : Nat → Int} {fs fs4 : List Nat} {lv4 : Nat → Nat} {par4 : Nat → Nat × Nat} {t4 F4 l4 : Nat} {ok4 : Bool} (hI4 : LayI w0 w w4 tb r q p n root va oth m fs m4 fs4 lv4 par4 t4 g4) (hlow4 : low m4 va 2 root = (F4, l4, ok4)) (hva : va < 274877906944) {f : Nat → Bool} {x : Nat} (hx : x < 18446744073709551616)
    (hbb4 : w4.heap[bb]? = some (.cells (entC f x).toArray 40 (0, 0))) (hrm : fs.length + oth.length + lev m root va ≤ n) {K : Value → World → Prop}
    (hK : ∀ m' g' t' fs' lv' par' w', Tab w0 w' tb r q p n m' g' t' fs' → Tree m' n fs' lv' par' → OwnT t' (fs' ++ oth) → (fs' ++ oth).Nodup → fs'.length = fs.length + lev m root va → fs'.headD 0 = root →
      (∀ va', va' < 549755813888 → lookW m' root va' = if va' / 4096 = va / 4096 then wd f x else lookW m root va') → (∀ va', va' < 549755813888 → lev m' root va' = levS (lev m root) va 0 va') → KeptO w w' → KeptI tb w w' → K (.int .i64 0) w')
    {t0 t1 v5 : Value} (e0 : t0 = .pointer (some ⟨tb, 0, none⟩)) (e1 : t1 = .int .u64 (va : Nat)) (e5 : v5 = .pointer (some ⟨bb, 0, none⟩)) :
    loopT (fun R3 s3 w => ∀ _ : Nat → Value,
  kV Try.prog (Op.unary .not (s3.getD 1 undef)) w fun v48 w =>
  condK v48
  (joinL (fun J5 =>
  drewK (fun w =>
  pN Try.prog (nilN t0) fun v51 =>
  pV Try.prog (Instr.fieldAt 85 v51 0) fun v52 =>
  pN Try.prog (nilN t0) fun v55 =>
  pV Try.prog (Instr.fieldAt 85 v55 1) fun v56 =>
  (kV Try.prog (Instr.loadAt 24 v52) w fun v53 w =>
  kV Try.prog (Instr.loadAt 28 v56) w fun v57 w =>
  kN Try.prog (callN (.func (.func 32) #[] #[]) #[v53, v57]) w fun v58 w =>
  pV Try.prog (Instr.extract v58 0) fun v59 =>
  pV Try.prog (Instr.extract v58 1) fun v60 =>
  J5 [v59, v60] w) ∧
  (kV Try.prog (Instr.loadAt 28 v56) w fun v57_1 w =>
  kV Try.prog (Instr.loadAt 24 v52) w fun v53_1 w =>
  kN Try.prog (callN (.func (.func 32) #[] #[]) #[v53_1, v57_1]) w fun v58_1 w =>
  pV Try.prog (Instr.extract v58_1 0) fun v59_1 =>
  pV Try.prog (Instr.extract v58_1 1) fun v60_1 =>
  J5 [v59_1, v60_1] w)) w) fun s5 w => ∀ _ : Nat → Value,
  kV Try.prog (binV .neq 25 (.tmp 61) (.const (.int .i64 0)) (s5.getD 1 undef) (.int .i64 0)) w fun v62 w =>
  condK v62
  (K (s5.getD 1 undef) w)
  (kN Try.prog (nilN t0) w fun v66 w =>
  kV Try.prog (Instr.fieldAt 85 v66 2) w fun v67 w =>
  kV Try.prog (Instr.loadAt 38 v67) w fun v68 w =>
  kV Try.prog (Instr.buildSlice 38 1 #[(0, (s5.getD 0 undef))]) w fun v70 w =>
  kV Try.prog (Builtin.append_ #[38, 38] 38 #[v68, v70]) w fun v71 w =>
  kN Try.prog (nilN t0) w fun v72 w =>
  kV Try.prog (Instr.fieldAt 85 v72 2) w fun v73 w =>
  kU Try.prog (Instr.storeAt 38 v73 v71) w fun _ w =>
  joinL (fun J7 =>
  drewK (fun w =>
  pN Try.prog (nilN t0) fun v75 =>
  pV Try.prog (Instr.fieldAt 85 v75 0) fun v76 =>
  pV Try.prog (convert 3 23 (s5.getD 0 undef)) fun v80 =>
  pV Try.prog (Instr.build 40 #[(0, (.bool true)), (12, v80)]) fun v81 =>
  (kV Try.prog (Instr.loadAt 24 v76) w fun v77 w =>
  kN Try.prog (callN (.func (.func 26) #[] #[]) #[v81]) w fun v82 w =>
  kN Try.prog (callN (.func (.func 36) #[] #[]) #[v77, (s3.getD 0 undef), (.int .i64 8), v82]) w fun v83 w =>
  J7 [] w) ∧
  (kN Try.prog (callN (.func (.func 26) #[] #[]) #[v81]) w fun v82_1 w =>
  kV Try.prog (Instr.loadAt 24 v76) w fun v77_1 w =>
  kN Try.prog (callN (.func (.func 36) #[] #[]) #[v77_1, (s3.getD 0 undef), (.int .i64 8), v82_1]) w fun v83_1 w =>
  J7 [] w)) w) fun s7 w => ∀ _ : Nat → Value,
  kN Try.prog (callN (.func (.func 35) #[] #[]) #[t0, t1]) w fun v87 w =>
  kV Try.prog (Instr.extract v87 0) w fun v88 w =>
  kV Try.prog (Instr.extract v87 1) w fun v89 w =>
  kV Try.prog (Instr.extract v87 2) w fun v90 w =>
  R3 [v88, v90] w))
  (drewK (fun w =>
  pN Try.prog (nilN t0) fun v92 =>
  pV Try.prog (Instr.fieldAt 85 v92 0) fun v93 =>
  (kV Try.prog (Instr.loadAt 24 v93) w fun v94 w =>
  kV Try.prog (Instr.loadAt 40 v5) w fun v96 w =>
  kN Try.prog (callN (.func (.func 26) #[] #[]) #[v96]) w fun v97 w =>
  kN Try.prog (callN (.func (.func 36) #[] #[]) #[v94, (s3.getD 0 undef), (.int .i64 8), v97]) w fun v98 w =>
  K v98 w) ∧
  (kV Try.prog (Instr.loadAt 40 v5) w fun v96_1 w =>
  (kV Try.prog (Instr.loadAt 24 v93) w fun v94_1 w =>
  kN Try.prog (callN (.func (.func 26) #[] #[]) #[v96_1]) w fun v97_1 w =>
  kN Try.prog (callN (.func (.func 36) #[] #[]) #[v94_1, (s3.getD 0 undef), (.int .i64 8), v97_1]) w fun v98_1 w =>
  K v98_1 w) ∧
  (kN Try.prog (callN (.func (.func 26) #[] #[]) #[v96_1]) w fun v97_2 w =>
  kV Try.prog (Instr.loadAt 24 v93) w fun v94_2 w =>
  kN Try.prog (callN (.func (.func 36) #[] #[]) #[v94_2, (s3.getD 0 undef), (.int .i64 8), v97_2]) w fun v98_2 w =>
  K v98_2 w))) w)) [.int .u64 (F4 * 4096 + idx va l4 * 8 : Nat), .bool ok4] w4 := by
  subst e0 e1 e5
  refine loopT.intro (fun st w' => ∃ m' g' t' fs' lv' par' F l ok, st = [.int .u64 (F * 4096 + idx va l * 8 : Nat), .bool ok] ∧ low m' va 2 root = (F, l, ok) ∧ LayI w0 w w' tb r q p n root va oth m fs m' fs' lv' par' t' g' ∧ w'.heap[bb]? = some (.cells (entC f x).toArray 40 (0, 0)))
    (fun _ w' => 64 - tlen w' tb) ⟨m4, g4, t4, fs4, lv4, par4, F4, l4, ok4, rfl, hlow4, hI4, hbb4⟩ ?_
  rintro st w' ⟨m', g', t', fs', lv', par', F, l, ok, rfl, hlow, hI, hbb⟩ _
  obtain ⟨hr, hlv, hfs1, hfs2⟩ := hI.fs
  have hat := low_at hI.tree (va := va) hr hlv
  rw [hlow] at hat
  obtain ⟨a1, a2, a3, a4, a5⟩ := hat
  simp only at a1 a2 a3 a4 a5
  have hn := hI.tab.num
  obtain ⟨a, c, hbx, ho⟩ := hI.tab.box
  have hFn := hI.tree.lt F a1
  cases ok
  · obtain ⟨l, rfl⟩ : ∃ l', l = l' + 1 := ⟨l - 1, by have h1 := of_decide_eq_false a4.symm; omega⟩
    have hE0 := a5 rfl
    have hlev : lev m' root va = l + 1 := lev_of hlow
    have hlen := hI.len
    rw [hlev] at hlen
    have htl := hI.tab.tlen
    simp (disch := first | assumption | omega | (simp only [szR, tgC_len, tgC_all, entC_len, entC_all, plC_len, plC_all, tbC_len, tbC_all] <;> omega) | rfl | decide) only [gen0, gen1, gen2, rulesM, rulesT, litR, bolR, Nat.reduceAdd, Nat.reduceLeDiff, numR, memR, valR, heapR, updR, intR, decR, extR, slR, segR, thenR, pnR, Int.reduceToNat, Int.reduceAdd, Int.reduceSub, Int.reduceLT, Int.reduceLE, Nat.reduceSub, Nat.reduceMul, Nat.reduceEqDiff, Bool.not_false]
    refine joinL.intro fun J5 hJ5 => ?_
    have hJ : ∀ k w5, k < n → t'.testBit k = false → Mem w5 r q n (wipeM m' k) (wset4 g' k fun _ => 0) → w5.heap[p]? = some (.cells (plC n (t' ||| 2 ^ k)).toArray 82 (0, 0)) → Ext [p, q] w' w5 → J5 [.int .i64 (k : Nat), .int .i64 0] w5 := by
      intro k w5 hk hbit hM5 hp5 hx5
      apply hJ5
      intro _
      have ht5 : t' ||| 2 ^ k < 18446744073709551616 := Nat.or_lt_two_pow (n := 64) hI.tab.bits (Nat.pow_lt_pow_right (by omega) (by omega))
      obtain ⟨h5, hk5⟩ := hI.tab.of hx5 (by simp) hM5 hp5 ht5
      have hi5 := hI.tab.ofI hx5 (by simp)
      obtain ⟨a', c', hbx5, ho5⟩ := h5.box
      have hl5 := lt_of_at hbx5
      simp (disch := first | assumption | omega | (simp only [szR, tgC_len, tgC_all, entC_len, entC_all, plC_len, plC_all, tbC_len, tbC_all] <;> omega) | rfl | decide) only [gen0, gen1, gen2, rulesM, rulesT, litR, bolR, Nat.reduceAdd, Nat.reduceLeDiff, numR, memR, valR, heapR, updR, intR, decR, extR, slR, segR, thenR, pnR, Int.reduceToNat, Int.reduceAdd, Int.reduceSub, Int.reduceLT, Int.reduceLE, Nat.reduceSub, Nat.reduceMul, Nat.reduceEqDiff, hbx5, tbC_2]
      have hxa : Ext [] w5 (w5.alloc (.cells (kC k).toArray 3)) := Ext.alloc Ext.refl _ _
      refine appI2 (k := k) (base := w0.heap.size) (ho5.ext hxa (by simp)) (alloc_at rfl) (by rw [List.length_map]; omega) (Nat.le_trans h5.ext.size hxa.size) fun v2 w6 ho6 hp6 hb6 => ?_
      rw [show fs'.map kC ++ [kC k] = (fs' ++ [k]).map kC by simp] at ho6
      obtain ⟨a6, c6, hv2⟩ := ho6.rows.len
      rw [List.length_map] at hv2
      subst hv2
      obtain ⟨h7, hk7, hb7⟩ := app_tab h5 hbx5 ho5 hp6 ho6
      have hi7 := app_tabI h5 hbx5 ho5 hp6 (fun b hb => (hb6 b hb).imp id fun e => by rw [e]; exact hxa.size)
      simp (disch := first | assumption | omega | (simp only [szR, tgC_len, tgC_all, entC_len, entC_all, plC_len, plC_all, tbC_len, tbC_all] <;> omega) | rfl | decide) only [gen0, gen1, gen2, rulesM, rulesT, litR, bolR, Nat.reduceAdd, Nat.reduceLeDiff, numR, memR, valR, heapR, updR, intR, decR, extR, slR, segR, thenR, pnR, Int.reduceToNat, Int.reduceAdd, Int.reduceSub, Int.reduceLT, Int.reduceLE, Nat.reduceSub, Nat.reduceMul, Nat.reduceEqDiff, hb7, tbC_set]
      obtain ⟨w7, hw7⟩ : ∃ w7, w7 = World.upd w6 tb (tbC r p (.slice a6 (fs' ++ [k]).length c6)) := ⟨_, rfl⟩
      rw [← hw7] at h7 hk7 hi7 ⊢
      have hkf : k ∉ fs' ++ oth := fun hm => by
        rw [(hI.own k (by omega)).2 hm] at hbit
        cases hbit
      obtain ⟨a8, c8, hb8, ho8⟩ := h7.box
      refine joinL.intro fun J7 hJ7 => ?_
      have hS : ∀ w8, Ext [] w7 w8 → callsK Try.prog 36 #[.pointer (some ⟨r, 0, none⟩), .int .u64 (F * 4096 + idx va (l + 1) * 8 : Nat), .int .i64 8, .int .u64 (wd (bare false) k : Nat)] w8 fun _ w => J7 [] w := by
        intro w8 hx8
        have h8 := h7.step hx8
        have hi := idx_lt va (l + 1)
        refine Store_spec (a := F * 4096 + idx va (l + 1) * 8) (s := 8) (v := (wd (bare false) k : Nat)) h8.mem (by omega) (by omega) (by unfold Size; omega) (by omega) (by have := wd_lt (bare false) k; omega) fun g9 w9 hM9 hg9 hx9 => ?_
        obtain ⟨h9, hk9⟩ := h8.of hx9 (fun b hb => .inr (List.mem_singleton.1 hb)) hM9 (hx9.at h8.pool (fun hm => at_ne h8.mem.body.choose_spec.1 h8.pool (by decide) (List.mem_singleton.1 hm).symm)) h8.bits
        have hE : ∀ f' i', i' < 512 → ew (stored (wipeM m' k) (F * 4096 + idx va (l + 1) * 8) 8 ((wd (bare false) k : Nat) : Int)) f' i' = if f' = F ∧ i' = idx va (l + 1) then wd (bare false) k else if f' = k then 0 else ew m' f' i' := fun f' i' hi' => by
          rw [ew_store (by have := wd_lt (bare false) k; omega) hi hi', ew_wipe hi']
        have hii : KeptI tb w' w9 := ((hi5.trans hi7).trans (h7.ofI hx8 (by simp))).trans (h8.ofI hx9 (fun b hb => .inr (List.mem_singleton.1 hb)))
        have hkk : KeptO w' w9 := ((hk5.trans hk7).trans (KeptO.of hx8 (by simp))).trans hk9
        obtain ⟨lv9, par9, hI9⟩ := hI.step (by omega) hlow hk hkf hE h9 hkk hii
        apply hJ7
        intro _
        simp (disch := first | assumption | omega | (simp only [szR, tgC_len, tgC_all, entC_len, entC_all, plC_len, plC_all, tbC_len, tbC_all] <;> omega) | rfl | decide) only [gen0, gen1, gen2, rulesM, rulesT, litR, bolR, Nat.reduceAdd, Nat.reduceLeDiff, numR, memR, valR, heapR, updR, intR, decR, extR, slR, segR, thenR, pnR, Int.reduceToNat, Int.reduceAdd, Int.reduceSub, Int.reduceLT, Int.reduceLE, Nat.reduceSub, Nat.reduceMul, Nat.reduceEqDiff]
        refine lowest_spec h9 hI9.tree (by omega) fun w10 hx10 => ?_
        rw [hI9.hd]
        obtain ⟨y, hy⟩ : ∃ y, low (stored (wipeM m' k) (F * 4096 + idx va (l + 1) * 8) 8 ((wd (bare false) k : Nat) : Int)) va 2 root = y := ⟨_, rfl⟩
        rw [hy]
        obtain ⟨F9, l9, ok9⟩ := y
        have hI10 : LayI w0 w w10 tb r q p n root va oth m fs _ _ lv9 par9 _ _ := ⟨hI9.tab.step hx10, hI9.tree, hI9.own, hI9.dis, hI9.oth, hI9.len, hI9.hd, hI9.look, hI9.levs, hI9.kept.trans (KeptO.of hx10 (by simp)), hI9.keptI.trans (hI9.tab.ofI hx10 (by simp))⟩
        have hbb10 := hx10.at (hkk.1 _ _ _ hbb (by decide) (by decide) (by decide) (by decide)) (by simp)
        have htl10 := hI10.tab.tlen
        simp (disch := first | assumption | omega | (simp only [szR, tgC_len, tgC_all, entC_len, entC_all, plC_len, plC_all, tbC_len, tbC_all] <;> omega) | rfl | decide) only [gen0, gen1, gen2, rulesM, rulesT, litR, bolR, Nat.reduceAdd, Nat.reduceLeDiff, numR, memR, valR, heapR, updR, intR, decR, extR, slR, segR, thenR, pnR, Int.reduceToNat, Int.reduceAdd, Int.reduceSub, Int.reduceLT, Int.reduceLE, Nat.reduceSub, Nat.reduceMul, Nat.reduceEqDiff]
        refine ⟨⟨_, _, _, _, _, _, F9, l9, ok9, rfl, hy, hI10, hbb10⟩, ?_⟩
        rw [htl, htl10, List.length_append, List.length_singleton]
        omega
      rw [drewK_eq]
      have hbd : ∀ w, (Instr.build 40 #[(0, .bool true), (12, .int .u64 (k : Nat))]).run Try.prog w = .ok (.agg (entC (bare false) k).toArray) w := fun w => run_build w 40 _ _ (by kernel_rfl)
      have hd7 : Ext [] w7 w7.drew := by (repeat first | assumption | exact Ext.refl | apply Ext.alloc | apply Ext.drew | (refine Ext.updN ?_ ?_; (focus first | omega | (simp only [szR] <;> omega))) | (refine Ext.updI ?_ ?_; (focus (simp; done))))
      have hl8 := lt_of_at hb8
      simp (disch := first | assumption | omega | (simp only [szR, tgC_len, tgC_all, entC_len, entC_all, plC_len, plC_all, tbC_len, tbC_all] <;> omega) | rfl | decide) only [gen0, gen1, gen2, rulesM, rulesT, litR, bolR, Nat.reduceAdd, Nat.reduceLeDiff, numR, memR, valR, heapR, updR, intR, decR, extR, slR, segR, thenR, pnR, Int.reduceToNat, Int.reduceAdd, Int.reduceSub, Int.reduceLT, Int.reduceLE, Nat.reduceSub, Nat.reduceMul, Nat.reduceEqDiff, hb8, tbC_0, hbd]
      refine ⟨?_, ?_⟩
      · refine Word_spec (by omega) fun w8 hx8 => ?_
        simp (disch := first | assumption | omega | (simp only [szR, tgC_len, tgC_all, entC_len, entC_all, plC_len, plC_all, tbC_len, tbC_all] <;> omega) | rfl | decide) only [gen0, gen1, gen2, rulesM, rulesT, litR, bolR, Nat.reduceAdd, Nat.reduceLeDiff, numR, memR, valR, heapR, updR, intR, decR, extR, slR, segR, thenR, pnR, Int.reduceToNat, Int.reduceAdd, Int.reduceSub, Int.reduceLT, Int.reduceLE, Nat.reduceSub, Nat.reduceMul, Nat.reduceEqDiff]
        exact hS _ (hd7.trans hx8 (by simp))
      · refine Word_spec (by omega) fun w8 hx8 => ?_
        have hk8 := kept0 hx8
        simp (disch := first | assumption | omega | (simp only [szR, tgC_len, tgC_all, entC_len, entC_all, plC_len, plC_all, tbC_len, tbC_all] <;> omega) | rfl | decide) only [gen0, gen1, gen2, rulesM, rulesT, litR, bolR, Nat.reduceAdd, Nat.reduceLeDiff, numR, memR, valR, heapR, updR, intR, decR, extR, slR, segR, thenR, pnR, Int.reduceToNat, Int.reduceAdd, Int.reduceSub, Int.reduceLT, Int.reduceLE, Nat.reduceSub, Nat.reduceMul, Nat.reduceEqDiff, hk8, hb8, tbC_0]
        exact hS _ (hd7.trans hx8 (by simp))
    rw [drewK_eq]
    have hd : Ext [] w' w'.drew := by (repeat first | assumption | exact Ext.refl | apply Ext.alloc | apply Ext.drew | (refine Ext.updN ?_ ?_; (focus first | omega | (simp only [szR] <;> omega))) | (refine Ext.updI ?_ ?_; (focus (simp; done))))
    have h1 := hI.tab.step hd
    simp (disch := first | assumption | omega | (simp only [szR, tgC_len, tgC_all, entC_len, entC_all, plC_len, plC_all, tbC_len, tbC_all] <;> omega) | rfl | decide) only [gen0, gen1, gen2, rulesM, rulesT, litR, bolR, Nat.reduceAdd, Nat.reduceLeDiff, numR, memR, valR, heapR, updR, intR, decR, extR, slR, segR, thenR, pnR, Int.reduceToNat, Int.reduceAdd, Int.reduceSub, Int.reduceLT, Int.reduceLE, Nat.reduceSub, Nat.reduceMul, Nat.reduceEqDiff, hbx, tbC_0, tbC_1, and_self]
    refine taken_spec h1.mem h1.pool hn h1.bits (fun k w5 hk hb hj hM hp hx5 => ?_) fun w5 hj hx5 => ?_
    · simp (disch := first | assumption | omega | (simp only [szR, tgC_len, tgC_all, entC_len, entC_all, plC_len, plC_all, tbC_len, tbC_all] <;> omega) | rfl | decide) only [gen0, gen1, gen2, rulesM, rulesT, litR, bolR, Nat.reduceAdd, Nat.reduceLeDiff, numR, memR, valR, heapR, updR, intR, decR, extR, slR, segR, thenR, pnR, Int.reduceToNat, Int.reduceAdd, Int.reduceSub, Int.reduceLT, Int.reduceLE, Nat.reduceSub, Nat.reduceMul, Nat.reduceEqDiff]
      exact hJ k w5 hk hb hM hp (hd.mono (by simp) |>.trans hx5 (by simp))
    · exfalso
      have h2 := full_le hj
      have h3 := cntK_mono (x := t') (a := n) (b := 64) (by omega)
      have h4 := cnt_fs hI.own hI.dis (fun a ha => by
        rcases List.mem_append.1 ha with ha | ha
        · have := hI.tree.lt a ha
          omega
        · have := hI.oth a ha
          omega)
      rw [List.length_append] at h4
      omega
  · simp (disch := first | assumption | omega | (simp only [szR, tgC_len, tgC_all, entC_len, entC_all, plC_len, plC_all, tbC_len, tbC_all] <;> omega) | rfl | decide) only [gen0, gen1, gen2, rulesM, rulesT, litR, bolR, Nat.reduceAdd, Nat.reduceLeDiff, numR, memR, valR, heapR, updR, intR, decR, extR, slR, segR, thenR, pnR, Int.reduceToNat, Int.reduceAdd, Int.reduceSub, Int.reduceLT, Int.reduceLE, Nat.reduceSub, Nat.reduceMul, Nat.reduceEqDiff, Bool.not_true]
    have hl0 : l = 0 := of_decide_eq_true a4.symm
    subst hl0
    have hlev : lev m' root va = 0 := lev_of hlow
    have hlen := hI.len
    rw [hlev] at hlen
    have hS : ∀ w8, Ext [] w' w8 → callsK Try.prog 36 #[.pointer (some ⟨r, 0, none⟩), .int .u64 (F * 4096 + idx va 0 * 8 : Nat), .int .i64 8, .int .u64 (wd f x : Nat)] w8 K := by
      intro w8 hx8
      have h8 := hI.tab.step hx8
      have hi := idx_lt va 0
      refine Store_spec (a := F * 4096 + idx va 0 * 8) (s := 8) (v := (wd f x : Nat)) h8.mem (by omega) (by omega) (by unfold Size; omega) (by omega) (by have := wd_lt f x; omega) fun g9 w9 hM9 hg9 hx9 => ?_
      obtain ⟨h9, hk9⟩ := h8.of hx9 (fun b hb => .inr (List.mem_singleton.1 hb)) hM9 (hx9.at h8.pool (fun hm => at_ne h8.mem.body.choose_spec.1 h8.pool (by decide) (List.mem_singleton.1 hm).symm)) h8.bits
      have hE : ∀ f' i', i' < 512 → ew (stored m' (F * 4096 + idx va 0 * 8) 8 ((wd f x : Nat) : Int)) f' i' = if f' = F ∧ i' = idx va 0 then wd f x else ew m' f' i' := fun f' i' hi' => ew_store (by have := wd_lt f x; omega) hi hi'
      have hE2 : ∀ f' i', i' < 512 → f' ≠ F → ew (stored m' (F * 4096 + idx va 0 * 8) 8 ((wd f x : Nat) : Int)) f' i' = ew m' f' i' := fun f' i' hi' hne => by rw [hE _ _ hi', if_neg (fun h => hne h.1)]
      refine hK _ g9 t' fs' lv' par' w9 h9 (hI.tree.put a2 hE2) hI.own hI.dis (by omega) hI.hd (fun va' hva' => ?_) (fun va' hva' => ?_) ((hI.kept.trans (KeptO.of hx8 (by simp))).trans hk9) ((hI.keptI.trans (hI.tab.ofI hx8 (by simp))).trans (h8.ofI hx9 (fun b hb => .inr (List.mem_singleton.1 hb))))
      · have := look_put hI.tree hva (by rw [hI.hd]; exact hlow) hE hva'
        rw [hI.hd] at this
        rw [this, hI.look va']
      · have h1 : lev _ root va' = lev m' root va' := congrArg levT (low_put hI.tree a2 hE2 va' hr hlv)
        rw [h1, hI.levs va' hva', hlev]
    have hd7 : Ext [] w' w'.drew := by (repeat first | assumption | exact Ext.refl | apply Ext.alloc | apply Ext.drew | (refine Ext.updN ?_ ?_; (focus first | omega | (simp only [szR] <;> omega))) | (refine Ext.updI ?_ ?_; (focus (simp; done))))
    have hl8 := lt_of_at hbx
    have hl9 := lt_of_at hbb
    simp (disch := first | assumption | omega | (simp only [szR, tgC_len, tgC_all, entC_len, entC_all, plC_len, plC_all, tbC_len, tbC_all] <;> omega) | rfl | decide) only [gen0, gen1, gen2, rulesM, rulesT, litR, bolR, Nat.reduceAdd, Nat.reduceLeDiff, numR, memR, valR, heapR, updR, intR, decR, extR, slR, segR, thenR, pnR, Int.reduceToNat, Int.reduceAdd, Int.reduceSub, Int.reduceLT, Int.reduceLE, Nat.reduceSub, Nat.reduceMul, Nat.reduceEqDiff, hbx, tbC_0, hbb, entC_sub]
    refine ⟨?_, ?_, ?_⟩
    · refine Word_spec (by omega) fun w8 hx8 => ?_
      simp (disch := first | assumption | omega | (simp only [szR, tgC_len, tgC_all, entC_len, entC_all, plC_len, plC_all, tbC_len, tbC_all] <;> omega) | rfl | decide) only [gen0, gen1, gen2, rulesM, rulesT, litR, bolR, Nat.reduceAdd, Nat.reduceLeDiff, numR, memR, valR, heapR, updR, intR, decR, extR, slR, segR, thenR, pnR, Int.reduceToNat, Int.reduceAdd, Int.reduceSub, Int.reduceLT, Int.reduceLE, Nat.reduceSub, Nat.reduceMul, Nat.reduceEqDiff]
      exact hS _ (hd7.trans hx8 (by simp))
    · refine Word_spec (by omega) fun w8 hx8 => ?_
      simp (disch := first | assumption | omega | (simp only [szR, tgC_len, tgC_all, entC_len, entC_all, plC_len, plC_all, tbC_len, tbC_all] <;> omega) | rfl | decide) only [gen0, gen1, gen2, rulesM, rulesT, litR, bolR, Nat.reduceAdd, Nat.reduceLeDiff, numR, memR, valR, heapR, updR, intR, decR, extR, slR, segR, thenR, pnR, Int.reduceToNat, Int.reduceAdd, Int.reduceSub, Int.reduceLT, Int.reduceLE, Nat.reduceSub, Nat.reduceMul, Nat.reduceEqDiff]
      exact hS _ (hd7.trans hx8 (by simp))
    · refine Word_spec (by omega) fun w8 hx8 => ?_
      have hk8 := kept0 hx8
      simp (disch := first | assumption | omega | (simp only [szR, tgC_len, tgC_all, entC_len, entC_all, plC_len, plC_all, tbC_len, tbC_all] <;> omega) | rfl | decide) only [gen0, gen1, gen2, rulesM, rulesT, litR, bolR, Nat.reduceAdd, Nat.reduceLeDiff, numR, memR, valR, heapR, updR, intR, decR, extR, slR, segR, thenR, pnR, Int.reduceToNat, Int.reduceAdd, Int.reduceSub, Int.reduceLT, Int.reduceLE, Nat.reduceSub, Nat.reduceMul, Nat.reduceEqDiff, hk8, hbx, tbC_0]
      exact hS _ (hd7.trans hx8 (by simp))
end Go.Proofs.Ytfpcflmgipklcaa
