/- TableTells' end; conditions: those of each theorem. -/
import Derived.Test.YtfpcflmgipklcaaTTells4
import Derived.Test.YtfpcflmgipklcaaTActs
namespace Go.Proofs.Ytfpcflmgipklcaa
open Go.Fx
set_option maxRecDepth 100000
set_option linter.unusedSimpArgs false
set_option linter.unusedVariables false
theorem pages_len {m : Nat → Int} {n : Nat} {fs : List Nat} {lv : Nat → Nat} {par : Nat → Nat × Nat} (hT : Tree m n fs lv par) (hr : fs.headD 0 = 0) : (pagesOf m 2 0 0).length ≤ 549755813888 := by
  have h1 : ((pagesOf m 2 0 0).map (·.1)).Nodup := by
    rw [List.Nodup, List.pairwise_map]
    exact pages_rise.imp fun h => Nat.ne_of_lt h
  have h2 := nodup_le (n := 549755813888) h1 fun v hv => by
    obtain ⟨⟨va, x⟩, hp, rfl⟩ := List.mem_map.1 hv
    exact ((tells_mem hT hr).1 hp).1
  rwa [List.length_map] at h2
set_option maxHeartbeats 1000000
theorem tells_end {w0 w : World} {tb r q p : Nat} {m g : Nat → Int} {t : Nat} {fs : List Nat} {lv : Nat → Nat} {par : Nat → Nat × Nat} (h : Tab w0 w tb r q p 16 m g t fs) (hT : Tree m 16 fs lv par) (hO : OwnT t fs) (hr : fs.headD 0 = 0) {N : Nat} (hfs : fs.length ≤ 1 + 2 * N) (hN : N < 4611686018427387904)
    {bl b3 mr : Nat} {most : Int} (hlst : w.heap[bl]? = some (.cells [.map (some mr)].toArray 67 (0, 0))) (hmst : w.heap[b3]? = some (.cells [.int .i64 most].toArray 3 (0, 0))) (hmap : MapF w mr pgf entf (lastF m))
    {v3 v11 v27 v33 t0 : Value} (e3 : v3 = .pointer (some ⟨b3, 0, none⟩)) (e11 : v11 = .pointer (some ⟨bl, 0, none⟩)) (e27 : v27 = .pointer (some ⟨p, 0, none⟩)) (e33 : v33 = .pointer (some ⟨tb, 0, none⟩)) (hlen : ∀ w, (Builtin.len_ #[22] 3 #[t0]).run Try.prog w = .ok (.int .i64 (N : Nat)) w)
    {K : Value → World → Prop} (hK : ∀ w', Ext [] w0 w' → K (.bool true) w') : (kN Try.prog (callN (.func (.func 27) #[] #[]) #[v33]) w fun v92 w =>
  kV Try.prog (binV .eql 71 (.tmp 93) (.const .nilFunc) v92 .nilFunc) w fun v94 w =>
  condK v94
  (K (.bool false) w)
  (kV Try.prog (Instr.alloc 3 true (.tuple #[])) w fun v16 w =>
  kV Try.prog (Instr.alloc 4 true (.tuple #[])) w fun v17 w =>
  kV Try.prog (Instr.alloc 23 true (.tuple #[])) w fun v18 w =>
  kU Try.prog (Instr.storeAt 3 v16 (.int .i64 0)) w fun _ w =>
  kU Try.prog (Instr.storeAt 4 v17 (.bool true)) w fun _ w =>
  kU Try.prog (Instr.storeAt 23 v18 (.int .u64 0)) w fun _ w =>
  kN Try.prog (callN v92 #[(.func (.func 28) #[] #[v17, v16, v18, v11])]) w fun v97 w =>
  kV Try.prog (Instr.alloc 3 true (.tuple #[])) w fun v19 w =>
  kU Try.prog (Instr.storeAt 3 v19 (.int .i64 0)) w fun _ w =>
  kN Try.prog (callN v92 #[(.func (.func 29) #[] #[v19, v3])]) w fun v100 w =>
  kN Try.prog (callN (.func (.func 18) #[] #[]) #[v33]) w fun v102 w =>
  kV Try.prog (Instr.loadAt 4 v17) w fun v103 w =>
  kV Try.prog (Op.unary .not v103) w fun v104 w =>
  joinK (fun J10 : Value → World → Prop => gdK (yb v104) false (fun k => kV Try.prog (Instr.loadAt 3 v16) w k) w fun v106 w =>
  gdK (yb v104) false (fun k => kV Try.prog (Instr.loadAt 67 v11) w k) w fun v107 w =>
  gdK (yb v104) false (fun k => kV Try.prog (Builtin.len_ #[67] 3 #[v107]) w k) w fun v108 w =>
  gdK (yb v104) false (fun k => kV Try.prog (binV .neq 3 (.tmp 106) (.tmp 108) v106 v108) w k) w fun v109 w =>
  kN Try.prog (pickN v104 (.bool true) v109) w fun v110_1 w =>
  J10 v110_1 w) fun v110 w =>
  joinK (fun J11 : Value → World → Prop => gdK (yb v110) false (fun k => kV Try.prog (Instr.loadAt 3 v19) w k) w fun v112 w =>
  gdK (yb v110) false (fun k => kV Try.prog (Instr.loadAt 3 v16) w k) w fun v113 w =>
  gdK (yb v110) false (fun k => kV Try.prog (Instr.loadAt 3 v3) w k) w fun v114 w =>
  gdK (yb v110) false (fun k => kV Try.prog (binV .and 3 (.tmp 114) (.const (.int .i64 7)) v114 (.int .i64 7)) w k) w fun v115 w =>
  gdK (yb v110) false (fun k => kV Try.prog (binV .add 3 (.tmp 115) (.const (.int .i64 1)) v115 (.int .i64 1)) w k) w fun v116 w =>
  gdK (yb v110) false (fun k => kV Try.prog (Builtin.min_ #[3, 3] 3 #[v113, v116]) w k) w fun v117 w =>
  gdK (yb v110) false (fun k => kV Try.prog (binV .neq 3 (.tmp 112) (.tmp 117) v112 v117) w k) w fun v118 w =>
  kN Try.prog (pickN v110 (.bool true) v118) w fun v119_1 w =>
  J11 v119_1 w) fun v119 w =>
  joinK (fun J12 : Value → World → Prop => gdK (yb v119) false (fun k => k v102 w) w fun v121 w =>
  gdK (yb v119) false (fun k => kV Try.prog (Builtin.len_ #[38] 3 #[v121]) w k) w fun v122 w =>
  gdK (yb v119) false (fun k => k t0 w) w fun v123 w =>
  gdK (yb v119) false (fun k => kV Try.prog (Builtin.len_ #[22] 3 #[v123]) w k) w fun v124 w =>
  gdK (yb v119) false (fun k => kV Try.prog (binV .mul 3 (.const (.int .i64 2)) (.tmp 124) (.int .i64 2) v124) w k) w fun v125 w =>
  gdK (yb v119) false (fun k => kV Try.prog (binV .add 3 (.const (.int .i64 1)) (.tmp 125) (.int .i64 1) v125) w k) w fun v126 w =>
  gdK (yb v119) false (fun k => kV Try.prog (binV .gtr 3 (.tmp 122) (.tmp 126) v122 v126) w k) w fun v127 w =>
  kN Try.prog (pickN v119 (.bool true) v127) w fun v128_1 w =>
  J12 v128_1 w) fun v128 w =>
  joinK (fun J13 : Value → World → Prop => gdK (yb v128) false (fun k => k v27 w) w fun v130 w =>
  gdK (yb v128) false (fun k => kN Try.prog (callN (.func (.func 19) #[] #[]) #[v130]) w k) w fun v131 w =>
  gdK (yb v128) false (fun k => k v102 w) w fun v132 w =>
  gdK (yb v128) false (fun k => kV Try.prog (Builtin.len_ #[38] 3 #[v132]) w k) w fun v133 w =>
  gdK (yb v128) false (fun k => kV Try.prog (binV .sub 3 (.const (.int .i64 16)) (.tmp 133) (.int .i64 16) v133) w k) w fun v134 w =>
  gdK (yb v128) false (fun k => kV Try.prog (binV .neq 3 (.tmp 131) (.tmp 134) v131 v134) w k) w fun v135 w =>
  kN Try.prog (pickN v128 (.bool true) v135) w fun v136_1 w =>
  J13 v136_1 w) fun v136 w =>
  condK v136
  (K (.bool false) w)
  (kN Try.prog (callN (.func (.func 30) #[] #[]) #[v33]) w fun v138 w =>
  kV Try.prog (binV .neq 25 (.tmp 138) (.const (.int .i64 0)) v138 (.int .i64 0)) w fun v139 w =>
  joinK (fun J14 : Value → World → Prop => gdK (yb v139) false (fun k => k v27 w) w fun v141 w =>
  gdK (yb v139) false (fun k => kN Try.prog (callN (.func (.func 19) #[] #[]) #[v141]) w k) w fun v142 w =>
  gdK (yb v139) false (fun k => kV Try.prog (binV .neq 3 (.tmp 142) (.const (.int .i64 16)) v142 (.int .i64 16)) w k) w fun v143 w =>
  kN Try.prog (pickN v139 (.bool true) v143) w fun v144_1 w =>
  J14 v144_1 w) fun v144 w =>
  joinK (fun J15 : Value → World → Prop => gdK (yb v144) false (fun k => k v33 w) w fun v146 w =>
  gdK (yb v144) false (fun k => kN Try.prog (callN (.func (.func 30) #[] #[]) #[v146]) w k) w fun v147 w =>
  gdK (yb v144) false (fun k => kV Try.prog (binV .neq 25 (.tmp 147) (.const (.int .i64 1)) v147 (.int .i64 1)) w k) w fun v148 w =>
  kN Try.prog (pickN v144 (.bool true) v148) w fun v149_1 w =>
  J15 v149_1 w) fun v149 w =>
  joinK (fun J16 : Value → World → Prop => gdK (yb v149) false (fun k => k v33 w) w fun v151 w =>
  gdK (yb v149) false (fun k => kN Try.prog (callN (.func (.func 21) #[] #[]) #[v151]) w k) w fun v152 w =>
  gdK (yb v149) false (fun k => kV Try.prog (binV .neq 23 (.tmp 152) (.const (.int .u64 0)) v152 (.int .u64 0)) w k) w fun v153 w =>
  kN Try.prog (pickN v149 (.bool true) v153) w fun v154_1 w =>
  J16 v154_1 w) fun v154 w =>
  condK v154
  (K (.bool false) w)
  (kN Try.prog (callN (.func (.func 22) #[] #[]) #[]) w fun v155 w =>
  K v155 w)))) := by
  subst e3 e11 e27 e33
  have hn := h.num
  have hfs0 : 0 < fs.length ∧ fs.length ≤ 64 := by
    obtain ⟨f0, l0, h1, h2⟩ := hT.top
    refine ⟨by rw [h1]; simp, ?_⟩
    have := nodup_le hT.one hT.lt
    omega
  have hTl := pages_len hT hr
  obtain ⟨c, hc⟩ : ∃ c : Nat, (c : Int) = most % 8 := ⟨(most % 8).toNat, by omega⟩
  have hc8 : c < 8 := by omega
  have hmask : bitI .and .i64 most 7 = (c : Int) := by rw [hc]; exact and_mask (k := .i64) (n := 3) (by decide)
  simp (disch := first | assumption | omega | (simp only [szR, tgC_len, tgC_all, entC_len, entC_all, plC_len, plC_all, tbC_len, tbC_all, actC_len, actC_all] <;> omega) | rfl | decide) only [gen0, gen1, gen2, rulesM, rulesT, rulesP, litR, bolR, Nat.reduceAdd, Nat.reduceLeDiff, numR, memR, valR, heapR, updR, intR, decR, extR, slR, segR, thenR, pnR, Int.reduceToNat, Int.reduceAdd, Int.reduceSub, Int.reduceLT, Int.reduceLE, Nat.reduceSub, Nat.reduceMul, Nat.reduceEqDiff]
  apply F27_ok
  unfold F27
  simp (disch := first | assumption | omega | (simp only [szR, tgC_len, tgC_all, entC_len, entC_all, plC_len, plC_all, tbC_len, tbC_all, actC_len, actC_all] <;> omega) | rfl | decide) only [gen0, gen1, gen2, rulesM, rulesT, rulesP, litR, bolR, Nat.reduceAdd, Nat.reduceLeDiff, numR, memR, valR, heapR, updR, intR, decR, extR, slR, segR, thenR, pnR, Int.reduceToNat, Int.reduceAdd, Int.reduceSub, Int.reduceLT, Int.reduceLE, Nat.reduceSub, Nat.reduceMul, Nat.reduceEqDiff]
  have l3 := lt_of_at hmst
  have ll := lt_of_at hlst
  obtain ⟨W, hW⟩ : ∃ W, W = World.upd (World.upd (World.upd ((((w.alloc (.cells #[.pointer (some ⟨tb, 0, none⟩)] 31)).alloc (.cells #[.int .i64 0] 3)).alloc (.cells #[.bool false] 4)).alloc (.cells #[.int .u64 0] 23)) (w.heap.size + 1) [.int .i64 0]) (w.heap.size + 1 + 1) [.bool true]) (w.heap.size + 1 + 1 + 1) [.int .u64 0] := ⟨_, rfl⟩
  rw [← hW]
  have hxW : Ext [] w W := by rw [hW]; (repeat first | assumption | exact Ext.refl | apply Ext.alloc | apply Ext.drew | (refine Ext.updN ?_ ?_; (focus first | omega | (simp only [szR] <;> omega))) | (refine Ext.updI ?_ ?_; (focus (simp; done))))
  have hbx : W.heap[w.heap.size]? = some (.cells #[.pointer (some ⟨tb, 0, none⟩)] 31 (0, 0)) := by rw [hW]; simp (disch := first | assumption | omega | (simp only [szR, tgC_len, tgC_all, entC_len, entC_all, plC_len, plC_all, tbC_len, tbC_all, actC_len, actC_all] <;> omega) | rfl | decide) only [gen0, gen1, gen2, rulesM, rulesT, rulesP, litR, bolR, Nat.reduceAdd, Nat.reduceLeDiff, numR, memR, valR, heapR, updR, intR, decR, extR, slR, segR, thenR, pnR, Int.reduceToNat, Int.reduceAdd, Int.reduceSub, Int.reduceLT, Int.reduceLE, Nat.reduceSub, Nat.reduceMul, Nat.reduceEqDiff]
  have c1 : W.heap[w.heap.size + 1 + 1]? = some (.cells #[.bool true] 4 (0, 0)) := by rw [hW]; simp (disch := first | assumption | omega | (simp only [szR, tgC_len, tgC_all, entC_len, entC_all, plC_len, plC_all, tbC_len, tbC_all, actC_len, actC_all] <;> omega) | rfl | decide) only [gen0, gen1, gen2, rulesM, rulesT, rulesP, litR, bolR, Nat.reduceAdd, Nat.reduceLeDiff, numR, memR, valR, heapR, updR, intR, decR, extR, slR, segR, thenR, pnR, Int.reduceToNat, Int.reduceAdd, Int.reduceSub, Int.reduceLT, Int.reduceLE, Nat.reduceSub, Nat.reduceMul, Nat.reduceEqDiff]
  have c2 : W.heap[w.heap.size + 1]? = some (.cells #[.int .i64 0] 3 (0, 0)) := by rw [hW]; simp (disch := first | assumption | omega | (simp only [szR, tgC_len, tgC_all, entC_len, entC_all, plC_len, plC_all, tbC_len, tbC_all, actC_len, actC_all] <;> omega) | rfl | decide) only [gen0, gen1, gen2, rulesM, rulesT, rulesP, litR, bolR, Nat.reduceAdd, Nat.reduceLeDiff, numR, memR, valR, heapR, updR, intR, decR, extR, slR, segR, thenR, pnR, Int.reduceToNat, Int.reduceAdd, Int.reduceSub, Int.reduceLT, Int.reduceLE, Nat.reduceSub, Nat.reduceMul, Nat.reduceEqDiff]
  have c3 : W.heap[w.heap.size + 1 + 1 + 1]? = some (.cells #[.int .u64 0] 23 (0, 0)) := by rw [hW]; simp (disch := first | assumption | omega | (simp only [szR, tgC_len, tgC_all, entC_len, entC_all, plC_len, plC_all, tbC_len, tbC_all, actC_len, actC_all] <;> omega) | rfl | decide) only [gen0, gen1, gen2, rulesM, rulesT, rulesP, litR, bolR, Nat.reduceAdd, Nat.reduceLeDiff, numR, memR, valR, heapR, updR, intR, decR, extR, slR, segR, thenR, pnR, Int.reduceToNat, Int.reduceAdd, Int.reduceSub, Int.reduceLT, Int.reduceLE, Nat.reduceSub, Nat.reduceMul, Nat.reduceEqDiff]
  have hsit : Sit w0 W tb r q p 16 m g t fs (w.heap.size + 1 + 1) (w.heap.size + 1) (w.heap.size + 1 + 1 + 1) bl b3 mr most ([] : List (Nat × Nat)).length (lastOf []) := by
    refine ⟨h.step hxW, c1, c2, c3, hxW.at hlst (by simp), hxW.at hmst (by simp), hmap.ext hxW (by simp), ⟨(Off.new h (by omega)).step' h hxW (by simp), (Off.new h (by omega)).step' h hxW (by simp), (Off.new h (by omega)).step' h hxW (by simp)⟩, by omega⟩
  refine pages_run hT hr hfs0 (fun d w' => Sit w0 w' tb r q p 16 m g t fs (w.heap.size + 1 + 1) (w.heap.size + 1) (w.heap.size + 1 + 1 + 1) bl b3 mr most d.length (lastOf d) ∧ w'.heap[w.heap.size]? = some (.cells #[.pointer (some ⟨tb, 0, none⟩)] 31 (0, 0))) (fun _ => False) (fun d w' hI => hI.1.tab) (fun d w' w2 hI hx => ⟨hI.1.step hx, hx.at hI.2 (by simp)⟩) (fun d w' va x K' hI hp hva hv hK1 hK2 => ?_) hbx ⟨hsit, hbx⟩ (fun w2 ⟨h2, hb2⟩ => ?_) (fun _ hf => hf.elim)
  · simp (disch := first | assumption | omega | (simp only [szR, tgC_len, tgC_all, entC_len, entC_all, plC_len, plC_all, tbC_len, tbC_all, actC_len, actC_all] <;> omega) | rfl | decide) only [gen0, gen1, gen2, rulesM, rulesT, rulesP, litR, bolR, Nat.reduceAdd, Nat.reduceLeDiff, numR, memR, valR, heapR, updR, intR, decR, extR, slR, segR, thenR, pnR, Int.reduceToNat, Int.reduceAdd, Int.reduceSub, Int.reduceLT, Int.reduceLE, Nat.reduceSub, Nat.reduceMul, Nat.reduceEqDiff]
    exact tell28 hT hr hI.1 hp (by omega) fun w3 h3 hx3 => hK1 w3 ⟨h3, hx3.at hI.2 (by simp; omega)⟩
  clear hsit
  obtain ⟨L, hL⟩ : ∃ L, L = (pagesOf m 2 0 0).length := ⟨_, rfl⟩
  obtain ⟨B, hB⟩ : ∃ B, B = lastOf (pagesOf m 2 0 0) := ⟨_, rfl⟩
  rw [← hL, ← hB] at h2
  rw [← hL] at hTl
  simp (disch := first | assumption | omega | (simp only [szR, tgC_len, tgC_all, entC_len, entC_all, plC_len, plC_all, tbC_len, tbC_all, actC_len, actC_all] <;> omega) | rfl | decide) only [gen0, gen1, gen2, rulesM, rulesT, rulesP, litR, bolR, Nat.reduceAdd, Nat.reduceLeDiff, numR, memR, valR, heapR, updR, intR, decR, extR, slR, segR, thenR, pnR, Int.reduceToNat, Int.reduceAdd, Int.reduceSub, Int.reduceLT, Int.reduceLE, Nat.reduceSub, Nat.reduceMul, Nat.reduceEqDiff]
  obtain ⟨W2, hW2⟩ : ∃ W2, W2 = w2.alloc (.cells #[.int .i64 0] 3) := ⟨_, rfl⟩
  rw [← hW2]
  have hx2 : Ext [] w2 W2 := by rw [hW2]; (repeat first | assumption | exact Ext.refl | apply Ext.alloc | apply Ext.drew | (refine Ext.updN ?_ ?_; (focus first | omega | (simp only [szR] <;> omega))) | (refine Ext.updI ?_ ?_; (focus (simp; done))))
  have hb3 := hx2.at hb2 (by simp)
  have hfew : Few w0 W2 tb r q p 16 m g t fs (w.heap.size + 1 + 1) (w.heap.size + 1) (w.heap.size + 1 + 1 + 1) bl b3 mr w2.heap.size most L B ([] : List (Nat × Nat)).length := by
    have m1 := lt_of_at h2.fine
    have m2 := lt_of_at h2.cnt
    have m3 := lt_of_at h2.bef
    have m4 := lt_of_at h2.lst
    have m5 := lt_of_at h2.mst
    refine ⟨h2.step hx2, by rw [hW2]; exact alloc_at rfl, (Off.new h2.tab (Nat.le_refl _)).step' h2.tab hx2 (by simp), by omega⟩
  refine callsK_mono (K := fun v w' => v = .tuple #[] ∧ ∃ k, Few w0 w' tb r q p 16 m g t fs (w.heap.size + 1 + 1) (w.heap.size + 1) (w.heap.size + 1 + 1 + 1) bl b3 mr w2.heap.size most L B k ∧ k = min L (c + 1)) ?_ ?_
  · refine pages_run hT hr hfs0 (fun d w' => Few w0 w' tb r q p 16 m g t fs (w.heap.size + 1 + 1) (w.heap.size + 1) (w.heap.size + 1 + 1 + 1) bl b3 mr w2.heap.size most L B d.length ∧ d.length ≤ c) (fun w' => Few w0 w' tb r q p 16 m g t fs (w.heap.size + 1 + 1) (w.heap.size + 1) (w.heap.size + 1 + 1 + 1) bl b3 mr w2.heap.size most L B (c + 1) ∧ c + 1 ≤ L) (fun d w' hI => hI.1.sit.tab) (fun d w' w2 hI hx => ⟨hI.1.step hx, hI.2⟩) (fun d w' va x K' hI hp hva hv hK1 hK2 => ?_) hb3 ⟨hfew, Nat.zero_le _⟩ (fun w3 h3 => ⟨rfl, _, h3.1, by have := h3.2; omega⟩) (fun w3 h3 => ⟨rfl, _, h3.1, by have := h3.2; omega⟩)
    simp (disch := first | assumption | omega | (simp only [szR, tgC_len, tgC_all, entC_len, entC_all, plC_len, plC_all, tbC_len, tbC_all, actC_len, actC_all] <;> omega) | rfl | decide) only [gen0, gen1, gen2, rulesM, rulesT, rulesP, litR, bolR, Nat.reduceAdd, Nat.reduceLeDiff, numR, memR, valR, heapR, updR, intR, decR, extR, slR, segR, thenR, pnR, Int.reduceToNat, Int.reduceAdd, Int.reduceSub, Int.reduceLT, Int.reduceLE, Nat.reduceSub, Nat.reduceMul, Nat.reduceEqDiff]
    have hpl := hp.length_le
    rw [List.length_append, List.length_singleton, ← hL] at hpl
    refine few29 hmask hc8 hI.1 hI.2 (fun hle w3 h3 => hK1 w3 ⟨by rw [List.length_append, List.length_singleton]; exact h3, by rw [List.length_append, List.length_singleton]; exact hle⟩) fun hlt w3 h3 => hK2 w3 ⟨?_, by omega⟩
    have := hI.2
    rw [show c + 1 = d.length + 1 by omega]
    exact h3
  rintro v w3 ⟨rfl, k, h3, hk⟩
  clear hfew h2
  simp (disch := first | assumption | omega | (simp only [szR, tgC_len, tgC_all, entC_len, entC_all, plC_len, plC_all, tbC_len, tbC_all, actC_len, actC_all] <;> omega) | rfl | decide) only [gen0, gen1, gen2, rulesM, rulesT, rulesP, litR, bolR, Nat.reduceAdd, Nat.reduceLeDiff, numR, memR, valR, heapR, updR, intR, decR, extR, slR, segR, thenR, pnR, Int.reduceToNat, Int.reduceAdd, Int.reduceSub, Int.reduceLT, Int.reduceLE, Nat.reduceSub, Nat.reduceMul, Nat.reduceEqDiff]
  have h3t := h3.sit.tab
  refine frames_tab h3t hfs0 fun a4 c4 w4 hx4 => ?_
  have h4 := h3.step hx4
  obtain ⟨ks, hks1, hks2, hks3⟩ := run_lenM (ty := 3) Try.underlying67 h4.sit.map
  have hkl := tells_len hT hr hks1 hks2
  rw [← hL] at hkl
  rw [← hkl] at hks3
  clear hks1 hks2 hkl
  have f1 := h4.sit.fine
  have f2 := h4.sit.cnt
  have f3 := h4.sit.lst
  have f4 := h4.sit.mst
  have f5 := h4.few
  have e1 : min ((L : Nat) : Int) ((c : Int) + 1) = (k : Int) := by omega
  have e2 : decide ((1 : Int) + 2 * ((N : Nat) : Int) < ((fs.length : Nat) : Int)) = false := decide_eq_false (by omega)
  have hlf : ∀ (a : Option Addr) (c : Nat) (w : World), (Builtin.len_ #[38] 3 #[.slice a fs.length c]).run Try.prog w = .ok (.int .i64 (fs.length : Nat)) w := fun a c w => by
    simp [Builtin.len_, Sem.run_bind, run_underlying Try.underlying38, goInt]
  simp (disch := first | assumption | omega | (simp only [szR, tgC_len, tgC_all, entC_len, entC_all, plC_len, plC_all, tbC_len, tbC_all, actC_len, actC_all] <;> omega) | rfl | decide) only [gen0, gen1, gen2, rulesM, rulesT, rulesP, litR, bolR, Nat.reduceAdd, Nat.reduceLeDiff, numR, memR, valR, heapR, updR, intR, decR, extR, slR, segR, thenR, pnR, Int.reduceToNat, Int.reduceAdd, Int.reduceSub, Int.reduceLT, Int.reduceLE, Nat.reduceSub, Nat.reduceMul, Nat.reduceEqDiff, joinBR, f1, f2, f3, f4, f5, hks3, hlen, hmask, mnR, e1, e2, hlf]
  refine pfree_tab h4.sit.tab hT hO fun w5 hx5 => ?_
  have t5 := h4.sit.tab.step hx5
  simp (disch := first | assumption | omega | (simp only [szR, tgC_len, tgC_all, entC_len, entC_all, plC_len, plC_all, tbC_len, tbC_all, actC_len, actC_all] <;> omega) | rfl | decide) only [gen0, gen1, gen2, rulesM, rulesT, rulesP, litR, bolR, Nat.reduceAdd, Nat.reduceLeDiff, numR, memR, valR, heapR, updR, intR, decR, extR, slR, segR, thenR, pnR, Int.reduceToNat, Int.reduceAdd, Int.reduceSub, Int.reduceLT, Int.reduceLE, Nat.reduceSub, Nat.reduceMul, Nat.reduceEqDiff, joinBR, hlf]
  refine Destroy_tab t5 hT hO hfs0 fun t' w6 ht6 hc6 hb6 hp6 hx6 => ?_
  simp (disch := first | assumption | omega | (simp only [szR, tgC_len, tgC_all, entC_len, entC_all, plC_len, plC_all, tbC_len, tbC_all, actC_len, actC_all] <;> omega) | rfl | decide) only [gen0, gen1, gen2, rulesM, rulesT, rulesP, litR, bolR, Nat.reduceAdd, Nat.reduceLeDiff, numR, memR, valR, heapR, updR, intR, decR, extR, slR, segR, thenR, pnR, Int.reduceToNat, Int.reduceAdd, Int.reduceSub, Int.reduceLT, Int.reduceLE, Nat.reduceSub, Nat.reduceMul, Nat.reduceEqDiff, joinBR]
  refine Free_spec hp6 hn ht6 fun w7 hx7 => ?_
  rw [hc6]
  have g1 := hx7.at hb6 (by simp)
  simp (disch := first | assumption | omega | (simp only [szR, tgC_len, tgC_all, entC_len, entC_all, plC_len, plC_all, tbC_len, tbC_all, actC_len, actC_all] <;> omega) | rfl | decide) only [gen0, gen1, gen2, rulesM, rulesT, rulesP, litR, bolR, Nat.reduceAdd, Nat.reduceLeDiff, numR, memR, valR, heapR, updR, intR, decR, extR, slR, segR, thenR, pnR, Int.reduceToNat, Int.reduceAdd, Int.reduceSub, Int.reduceLT, Int.reduceLE, Nat.reduceSub, Nat.reduceMul, Nat.reduceEqDiff, joinBR]
  refine Destroy_gone g1 ?_
  simp (disch := first | assumption | omega | (simp only [szR, tgC_len, tgC_all, entC_len, entC_all, plC_len, plC_all, tbC_len, tbC_all, actC_len, actC_all] <;> omega) | rfl | decide) only [gen0, gen1, gen2, rulesM, rulesT, rulesP, litR, bolR, Nat.reduceAdd, Nat.reduceLeDiff, numR, memR, valR, heapR, updR, intR, decR, extR, slR, segR, thenR, pnR, Int.reduceToNat, Int.reduceAdd, Int.reduceSub, Int.reduceLT, Int.reduceLE, Nat.reduceSub, Nat.reduceMul, Nat.reduceEqDiff, joinBR]
  refine Root_gone g1 ?_
  simp (disch := first | assumption | omega | (simp only [szR, tgC_len, tgC_all, entC_len, entC_all, plC_len, plC_all, tbC_len, tbC_all, actC_len, actC_all] <;> omega) | rfl | decide) only [gen0, gen1, gen2, rulesM, rulesT, rulesP, litR, bolR, Nat.reduceAdd, Nat.reduceLeDiff, numR, memR, valR, heapR, updR, intR, decR, extR, slR, segR, thenR, pnR, Int.reduceToNat, Int.reduceAdd, Int.reduceSub, Int.reduceLT, Int.reduceLE, Nat.reduceSub, Nat.reduceMul, Nat.reduceEqDiff, joinBR]
  refine one_spec fun w8 hx8 => ?_
  exact hK _ ((hx6.trans hx7 (by simp)).trans hx8 (by simp))
end Go.Proofs.Ytfpcflmgipklcaa
