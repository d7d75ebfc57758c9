/- The document's unit where no line tells: the walk, and what is kept and laid; conditions: those of each theorem. -/
import Derived.Test.YtbigiabcgplkgaaRel12
import Derived.Test.YtbigiabcgplkgaaRefRam2
namespace Go.Proofs.Ytbigiabcgplkgaa
open Go.Fx
set_option maxRecDepth 100000
set_option linter.unusedSimpArgs false
set_option linter.unusedVariables false
theorem app87 {base : Nat} {v x : Value} {rows rows2 : List (List Value)} {w : World} {K : Value → World → Prop} (hown : OwnR w base 37 13 v rows) (hx : RowsAt w x 13 rows2) (h1 : ∀ r ∈ rows2, r.all (fun v => v.oneCell') = true)
    (hl : rows.length + rows2.length ≤ 1000000) (hbase : base ≤ w.heap.size) (hK : ∀ v' w', OwnR w' base 37 13 v' (rows ++ rows2) → App base v w w' → K v' w') : resV K ((Builtin.append_ #[87, 87] 87 #[v, x]).run Try.prog w) :=
  kV_appR Try.underlying87 (by kernel_rfl) (by omega) (bytes := 24) hown hx h1 (by simp only [maxLen]; omega) (by omega) hbase hK
theorem deC_all (D : List Dn) : ∀ r ∈ D.map deC, r.all (fun v => v.oneCell') = true := by
  intro r hr
  obtain ⟨d, -, rfl⟩ := List.mem_map.1 hr
  exact entC_all _ _
theorem neqR37 {f g : Nat → Bool} {n m : Nat} (x y : Operand) (w : World) : (binV .neq 37 x y (.agg (entC f n).toArray) (.agg (entC g m).toArray)).run Try.prog w = .ok (.bool (!eqE f n g m)) w := by
  exact RU_neq_37 _ _ _ _ _ _ _ _ _ _ _ _ _ _ _ _ _ _ _ _ _ _ _ _ _ _ x y w
/-- where the five cells of the call are. -/
structure Fr12 (w w' : World) (U L : List Value) : Prop where
  c0 : w'.heap[w.heap.size]? = some (.cells U.toArray 89 (0, 0))
  c1 : w'.heap[w.heap.size + 1]? = some (.cells L.toArray 28 (0, 0))
  c2 : w'.heap[w.heap.size + 1 + 1]? = some (.cells [.slice none 0 0, .slice none 0 0, .int .u64 0, .int .u64 0, .bool false].toArray 89 (0, 0))
  c3 : w'.heap[w.heap.size + 1 + 1 + 1]? = some (.cells [.int .i64 0, .slice none 0 0, .slice none 0 0, .slice none 0 0].toArray 28 (0, 0))
  c4 : w'.heap[w.heap.size + 1 + 1 + 1 + 1]? = some (.cells [.int .u64 0, .bool false].toArray 92 (0, 0))
  ext : Ext [] w w'
theorem Fr12.to {w w1 w2 : World} {U L : List Value} (h : Fr12 w w1 U L) (hx : Ext [] w1 w2) : Fr12 w w2 U L :=
  ⟨hx.at h.c0 (by simp), hx.at h.c1 (by simp), hx.at h.c2 (by simp), hx.at h.c3 (by simp), hx.at h.c4 (by simp), h.ext.trans hx (by simp)⟩
theorem Fr12.setU {w w1 : World} {U U' L : List Value} (h : Fr12 w w1 U L) : Fr12 w (World.upd w1 w.heap.size U') U' L :=
  ⟨upd_at h.c0, (upd_ne (by omega)).trans h.c1, (upd_ne (by omega)).trans h.c2, (upd_ne (by omega)).trans h.c3, (upd_ne (by omega)).trans h.c4, Ext.updN (Nat.le_refl _) h.ext⟩
theorem Fr12.setL {w w1 : World} {U L L' : List Value} (h : Fr12 w w1 U L) : Fr12 w (World.upd w1 (w.heap.size + 1) L') U L' :=
  ⟨(upd_ne (by omega)).trans h.c0, upd_at h.c1, (upd_ne (by omega)).trans h.c2, (upd_ne (by omega)).trans h.c3, (upd_ne (by omega)).trans h.c4, Ext.updN (by omega) h.ext⟩
theorem Fr12.upU {w w1 w2 : World} {U U' L : List Value} (h : Fr12 w w1 U L) (h0 : w2.heap[w.heap.size]? = some (.cells U'.toArray 89 (0, 0))) (hx : Ext [w.heap.size] w1 w2) : Fr12 w w2 U' L :=
  ⟨h0, hx.at h.c1 (by simp), hx.at h.c2 (by simp <;> omega), hx.at h.c3 (by simp <;> omega), hx.at h.c4 (by simp <;> omega), h.ext.trans hx (by simp)⟩
def five (n : Nat) : List Nat := [n, n + 1, n + 1 + 1, n + 1 + 1 + 1, n + 1 + 1 + 1 + 1]
theorem five_out {n b : Nat} (h : n + 1 + 1 + 1 + 1 < b) : b ∉ five n := by simp [five]; omega
theorem five_low {n b : Nat} (h : b < n) : b ∉ five n := by simp [five]; omega
theorem dropL4 {L : List Value} (h : L.length = 4) : L ++ List.drop L.length [.int .i64 0, .slice none 0 0, .slice none 0 0, .slice none 0 0] = L := by simp [h]
theorem spliceL4 {L : List Value} (h : L.length = 4) : splice [.int .i64 0, .slice none 0 0, .slice none 0 0, .slice none 0 0] 0 L = L := splice_over (by rw [h]; rfl)
set_option maxHeartbeats 8000000 in
theorem reg31 {w : World} {b5 b21 ro ai n x : Nat} {vl ve : Value} {D : List Dn} {g : Bool} {f : Nat → Bool} {J31 : List Value → World → Prop} (h5 : w.heap[b5]? = some (.cells [vl, ve, .int .u64 ro, .int .u64 ai, .bool g].toArray 89 (0, 0))) (h21 : w.heap[b21]? = some (.cells (entC f n).toArray 37 (0, 0)))
    (he : RowsAt w ve 13 (D.map deC)) (hD : D.length ≤ 100)
    (hJ : ∀ ve' w', RowsAt w' ve' 13 ((D ++ [Dn.mk f n x]).map deC) → (∀ b, blockOf ve' = some b → w.heap.size ≤ b) → w'.heap[b5]? = some (.cells [vl, ve', .int .u64 ro, .int .u64 ai, .bool g].toArray 89 (0, 0)) → Ext [b5] w w' → J31 [] w') :
    (fun v5 v21 => (drewK (fun w =>
  pV Try.prog (Instr.fieldAt 89 v5 1) fun v119 =>
  (kV Try.prog (Instr.buildSlice 87 0 #[]) w fun v118 w =>
  (kV Try.prog (Instr.loadAt 87 v119) w fun v120 w =>
  (kV Try.prog (Builtin.append_ #[87, 87] 87 #[v118, v120]) w fun v121 w =>
  kV Try.prog (Instr.loadAt 37 v21) w fun v122 w =>
  kV Try.prog (Instr.buildSlice 87 1 #[(0, v122)]) w fun v123 w =>
  kV Try.prog (Builtin.append_ #[87, 87] 87 #[v121, v123]) w fun v124 w =>
  pV Try.prog (Instr.fieldAt 89 v5 1) fun v125 =>
  kU Try.prog (Instr.storeAt 87 v125 v124) w fun _ w =>
  J31 [] w) ∧
  (kV Try.prog (Instr.loadAt 37 v21) w fun v122_1 w =>
  (kV Try.prog (Builtin.append_ #[87, 87] 87 #[v118, v120]) w fun v121_1 w =>
  kV Try.prog (Instr.buildSlice 87 1 #[(0, v122_1)]) w fun v123_1 w =>
  kV Try.prog (Builtin.append_ #[87, 87] 87 #[v121_1, v123_1]) w fun v124_1 w =>
  pV Try.prog (Instr.fieldAt 89 v5 1) fun v125_1 =>
  kU Try.prog (Instr.storeAt 87 v125_1 v124_1) w fun _ w =>
  J31 [] w) ∧
  (kV Try.prog (Instr.buildSlice 87 1 #[(0, v122_1)]) w fun v123_2 w =>
  kV Try.prog (Builtin.append_ #[87, 87] 87 #[v118, v120]) w fun v121_2 w =>
  kV Try.prog (Builtin.append_ #[87, 87] 87 #[v121_2, v123_2]) w fun v124_2 w =>
  pV Try.prog (Instr.fieldAt 89 v5 1) fun v125_2 =>
  kU Try.prog (Instr.storeAt 87 v125_2 v124_2) w fun _ w =>
  J31 [] w))) ∧
  (kV Try.prog (Instr.loadAt 37 v21) w fun v122_2 w =>
  (kV Try.prog (Instr.loadAt 87 v119) w fun v120_1 w =>
  (kV Try.prog (Builtin.append_ #[87, 87] 87 #[v118, v120_1]) w fun v121_3 w =>
  kV Try.prog (Instr.buildSlice 87 1 #[(0, v122_2)]) w fun v123_3 w =>
  kV Try.prog (Builtin.append_ #[87, 87] 87 #[v121_3, v123_3]) w fun v124_3 w =>
  pV Try.prog (Instr.fieldAt 89 v5 1) fun v125_3 =>
  kU Try.prog (Instr.storeAt 87 v125_3 v124_3) w fun _ w =>
  J31 [] w) ∧
  (kV Try.prog (Instr.buildSlice 87 1 #[(0, v122_2)]) w fun v123_4 w =>
  kV Try.prog (Builtin.append_ #[87, 87] 87 #[v118, v120_1]) w fun v121_4 w =>
  kV Try.prog (Builtin.append_ #[87, 87] 87 #[v121_4, v123_4]) w fun v124_4 w =>
  pV Try.prog (Instr.fieldAt 89 v5 1) fun v125_4 =>
  kU Try.prog (Instr.storeAt 87 v125_4 v124_4) w fun _ w =>
  J31 [] w)) ∧
  (kV Try.prog (Instr.buildSlice 87 1 #[(0, v122_2)]) w fun v123_5 w =>
  kV Try.prog (Instr.loadAt 87 v119) w fun v120_2 w =>
  kV Try.prog (Builtin.append_ #[87, 87] 87 #[v118, v120_2]) w fun v121_5 w =>
  kV Try.prog (Builtin.append_ #[87, 87] 87 #[v121_5, v123_5]) w fun v124_5 w =>
  pV Try.prog (Instr.fieldAt 89 v5 1) fun v125_5 =>
  kU Try.prog (Instr.storeAt 87 v125_5 v124_5) w fun _ w =>
  J31 [] w))) ∧
  (kV Try.prog (Instr.loadAt 87 v119) w fun v120_3 w =>
  (kV Try.prog (Instr.buildSlice 87 0 #[]) w fun v118_1 w =>
  (kV Try.prog (Builtin.append_ #[87, 87] 87 #[v118_1, v120_3]) w fun v121_6 w =>
  kV Try.prog (Instr.loadAt 37 v21) w fun v122_3 w =>
  kV Try.prog (Instr.buildSlice 87 1 #[(0, v122_3)]) w fun v123_6 w =>
  kV Try.prog (Builtin.append_ #[87, 87] 87 #[v121_6, v123_6]) w fun v124_6 w =>
  pV Try.prog (Instr.fieldAt 89 v5 1) fun v125_6 =>
  kU Try.prog (Instr.storeAt 87 v125_6 v124_6) w fun _ w =>
  J31 [] w) ∧
  (kV Try.prog (Instr.loadAt 37 v21) w fun v122_4 w =>
  (kV Try.prog (Builtin.append_ #[87, 87] 87 #[v118_1, v120_3]) w fun v121_7 w =>
  kV Try.prog (Instr.buildSlice 87 1 #[(0, v122_4)]) w fun v123_7 w =>
  kV Try.prog (Builtin.append_ #[87, 87] 87 #[v121_7, v123_7]) w fun v124_7 w =>
  pV Try.prog (Instr.fieldAt 89 v5 1) fun v125_7 =>
  kU Try.prog (Instr.storeAt 87 v125_7 v124_7) w fun _ w =>
  J31 [] w) ∧
  (kV Try.prog (Instr.buildSlice 87 1 #[(0, v122_4)]) w fun v123_8 w =>
  kV Try.prog (Builtin.append_ #[87, 87] 87 #[v118_1, v120_3]) w fun v121_8 w =>
  kV Try.prog (Builtin.append_ #[87, 87] 87 #[v121_8, v123_8]) w fun v124_8 w =>
  pV Try.prog (Instr.fieldAt 89 v5 1) fun v125_8 =>
  kU Try.prog (Instr.storeAt 87 v125_8 v124_8) w fun _ w =>
  J31 [] w))) ∧
  (kV Try.prog (Instr.loadAt 37 v21) w fun v122_5 w =>
  (kV Try.prog (Instr.buildSlice 87 0 #[]) w fun v118_2 w =>
  (kV Try.prog (Builtin.append_ #[87, 87] 87 #[v118_2, v120_3]) w fun v121_9 w =>
  kV Try.prog (Instr.buildSlice 87 1 #[(0, v122_5)]) w fun v123_9 w =>
  kV Try.prog (Builtin.append_ #[87, 87] 87 #[v121_9, v123_9]) w fun v124_9 w =>
  pV Try.prog (Instr.fieldAt 89 v5 1) fun v125_9 =>
  kU Try.prog (Instr.storeAt 87 v125_9 v124_9) w fun _ w =>
  J31 [] w) ∧
  (kV Try.prog (Instr.buildSlice 87 1 #[(0, v122_5)]) w fun v123_10 w =>
  kV Try.prog (Builtin.append_ #[87, 87] 87 #[v118_2, v120_3]) w fun v121_10 w =>
  kV Try.prog (Builtin.append_ #[87, 87] 87 #[v121_10, v123_10]) w fun v124_10 w =>
  pV Try.prog (Instr.fieldAt 89 v5 1) fun v125_10 =>
  kU Try.prog (Instr.storeAt 87 v125_10 v124_10) w fun _ w =>
  J31 [] w)) ∧
  (kV Try.prog (Instr.buildSlice 87 1 #[(0, v122_5)]) w fun v123_11 w =>
  kV Try.prog (Instr.buildSlice 87 0 #[]) w fun v118_3 w =>
  kV Try.prog (Builtin.append_ #[87, 87] 87 #[v118_3, v120_3]) w fun v121_11 w =>
  kV Try.prog (Builtin.append_ #[87, 87] 87 #[v121_11, v123_11]) w fun v124_11 w =>
  pV Try.prog (Instr.fieldAt 89 v5 1) fun v125_11 =>
  kU Try.prog (Instr.storeAt 87 v125_11 v124_11) w fun _ w =>
  J31 [] w))) ∧
  (kV Try.prog (Instr.loadAt 37 v21) w fun v122_6 w =>
  (kV Try.prog (Instr.buildSlice 87 0 #[]) w fun v118_4 w =>
  (kV Try.prog (Instr.loadAt 87 v119) w fun v120_4 w =>
  (kV Try.prog (Builtin.append_ #[87, 87] 87 #[v118_4, v120_4]) w fun v121_12 w =>
  kV Try.prog (Instr.buildSlice 87 1 #[(0, v122_6)]) w fun v123_12 w =>
  kV Try.prog (Builtin.append_ #[87, 87] 87 #[v121_12, v123_12]) w fun v124_12 w =>
  pV Try.prog (Instr.fieldAt 89 v5 1) fun v125_12 =>
  kU Try.prog (Instr.storeAt 87 v125_12 v124_12) w fun _ w =>
  J31 [] w) ∧
  (kV Try.prog (Instr.buildSlice 87 1 #[(0, v122_6)]) w fun v123_13 w =>
  kV Try.prog (Builtin.append_ #[87, 87] 87 #[v118_4, v120_4]) w fun v121_13 w =>
  kV Try.prog (Builtin.append_ #[87, 87] 87 #[v121_13, v123_13]) w fun v124_13 w =>
  pV Try.prog (Instr.fieldAt 89 v5 1) fun v125_13 =>
  kU Try.prog (Instr.storeAt 87 v125_13 v124_13) w fun _ w =>
  J31 [] w)) ∧
  (kV Try.prog (Instr.buildSlice 87 1 #[(0, v122_6)]) w fun v123_14 w =>
  kV Try.prog (Instr.loadAt 87 v119) w fun v120_5 w =>
  kV Try.prog (Builtin.append_ #[87, 87] 87 #[v118_4, v120_5]) w fun v121_14 w =>
  kV Try.prog (Builtin.append_ #[87, 87] 87 #[v121_14, v123_14]) w fun v124_14 w =>
  pV Try.prog (Instr.fieldAt 89 v5 1) fun v125_14 =>
  kU Try.prog (Instr.storeAt 87 v125_14 v124_14) w fun _ w =>
  J31 [] w)) ∧
  (kV Try.prog (Instr.loadAt 87 v119) w fun v120_6 w =>
  (kV Try.prog (Instr.buildSlice 87 0 #[]) w fun v118_5 w =>
  (kV Try.prog (Builtin.append_ #[87, 87] 87 #[v118_5, v120_6]) w fun v121_15 w =>
  kV Try.prog (Instr.buildSlice 87 1 #[(0, v122_6)]) w fun v123_15 w =>
  kV Try.prog (Builtin.append_ #[87, 87] 87 #[v121_15, v123_15]) w fun v124_15 w =>
  pV Try.prog (Instr.fieldAt 89 v5 1) fun v125_15 =>
  kU Try.prog (Instr.storeAt 87 v125_15 v124_15) w fun _ w =>
  J31 [] w) ∧
  (kV Try.prog (Instr.buildSlice 87 1 #[(0, v122_6)]) w fun v123_16 w =>
  kV Try.prog (Builtin.append_ #[87, 87] 87 #[v118_5, v120_6]) w fun v121_16 w =>
  kV Try.prog (Builtin.append_ #[87, 87] 87 #[v121_16, v123_16]) w fun v124_16 w =>
  pV Try.prog (Instr.fieldAt 89 v5 1) fun v125_16 =>
  kU Try.prog (Instr.storeAt 87 v125_16 v124_16) w fun _ w =>
  J31 [] w)) ∧
  (kV Try.prog (Instr.buildSlice 87 1 #[(0, v122_6)]) w fun v123_17 w =>
  kV Try.prog (Instr.buildSlice 87 0 #[]) w fun v118_6 w =>
  kV Try.prog (Builtin.append_ #[87, 87] 87 #[v118_6, v120_6]) w fun v121_17 w =>
  kV Try.prog (Builtin.append_ #[87, 87] 87 #[v121_17, v123_17]) w fun v124_17 w =>
  pV Try.prog (Instr.fieldAt 89 v5 1) fun v125_17 =>
  kU Try.prog (Instr.storeAt 87 v125_17 v124_17) w fun _ w =>
  J31 [] w)) ∧
  (kV Try.prog (Instr.buildSlice 87 1 #[(0, v122_6)]) w fun v123_18 w =>
  (kV Try.prog (Instr.buildSlice 87 0 #[]) w fun v118_7 w =>
  kV Try.prog (Instr.loadAt 87 v119) w fun v120_7 w =>
  kV Try.prog (Builtin.append_ #[87, 87] 87 #[v118_7, v120_7]) w fun v121_18 w =>
  kV Try.prog (Builtin.append_ #[87, 87] 87 #[v121_18, v123_18]) w fun v124_18 w =>
  pV Try.prog (Instr.fieldAt 89 v5 1) fun v125_18 =>
  kU Try.prog (Instr.storeAt 87 v125_18 v124_18) w fun _ w =>
  J31 [] w) ∧
  (kV Try.prog (Instr.loadAt 87 v119) w fun v120_8 w =>
  kV Try.prog (Instr.buildSlice 87 0 #[]) w fun v118_8 w =>
  kV Try.prog (Builtin.append_ #[87, 87] 87 #[v118_8, v120_8]) w fun v121_19 w =>
  kV Try.prog (Builtin.append_ #[87, 87] 87 #[v121_19, v123_18]) w fun v124_19 w =>
  pV Try.prog (Instr.fieldAt 89 v5 1) fun v125_19 =>
  kU Try.prog (Instr.storeAt 87 v125_19 v124_19) w fun _ w =>
  J31 [] w)))) w)) (.pointer (some ⟨b5, 0, none⟩)) (.pointer (some ⟨b21, 0, none⟩)) := by
  have l5 := lt_of_at h5
  have l21 := lt_of_at h21
  have hfin : ∀ v' W w', OwnR w' w.heap.size 37 13 v' ((D.map deC) ++ [entC f n]) → Ext [] w w' → w'.heap[b5]? = some (.cells [vl, ve, .int .u64 ro, .int .u64 ai, .bool g].toArray 89 (0, 0)) → W = World.upd w' b5 [vl, v', .int .u64 ro, .int .u64 ai, .bool g] → J31 [] W := by
    rintro v' W w' ho hx h5' rfl
    have l5' := lt_of_at h5'
    refine hJ v' _ ?_ (fun b hb => ho.block b hb) (by first | with_reducible rfl | assumption | (simp (disch := first | assumption | omega | (simp only [szR, entC_len, entC_all, un_len] <;> omega) | rfl | decide) only [gen0, gen1, gen2, rulesM, rulesU, litR, bolR, Nat.reduceAdd, Nat.reduceLeDiff, numR, memR, valR, heapR, updR, intR, decR, extR, slR, segR, thenR, pnR, Int.reduceToNat, Int.reduceAdd, Int.reduceSub, Int.reduceLT, Int.reduceLE, Nat.reduceSub, Nat.reduceMul, Nat.reduceEqDiff, h5'] <;> rfl)) (Ext.updI (by simp) (hx.mono (by simp)))
    have : (D ++ [Dn.mk f n x]).map deC = D.map deC ++ [entC f n] := by simp [deC]
    rw [this]
    exact (ho.ext (S := [b5]) (Ext.updI (by simp) Ext.refl) (fun b hb => by have := ho.block b hb; simp; omega)).rows
  clear hJ
  simp only []
  simp (disch := first | assumption | omega | (simp only [szR, entC_len, entC_all, un_len] <;> omega) | rfl | decide) only [gen0, gen1, gen2, rulesM, rulesU, litR, bolR, Nat.reduceAdd, Nat.reduceLeDiff, numR, memR, valR, heapR, updR, intR, decR, extR, slR, segR, thenR, pnR, Int.reduceToNat, Int.reduceAdd, Int.reduceSub, Int.reduceLT, Int.reduceLE, Nat.reduceSub, Nat.reduceMul, Nat.reduceEqDiff, h5, h21, entC_sub]
  repeat' (with_reducible apply And.intro)
  all_goals
    refine app87 (rows := []) (base := w.heap.size) (OwnR.empty (by first | with_reducible rfl | assumption | (simp (disch := first | assumption | omega | (simp only [szR, entC_len, entC_all, un_len] <;> omega) | rfl | decide) only [gen0, gen1, gen2, rulesM, rulesU, litR, bolR, Nat.reduceAdd, Nat.reduceLeDiff, numR, memR, valR, heapR, updR, intR, decR, extR, slR, segR, thenR, pnR, Int.reduceToNat, Int.reduceAdd, Int.reduceSub, Int.reduceLT, Int.reduceLE, Nat.reduceSub, Nat.reduceMul, Nat.reduceEqDiff] <;> rfl)) (by first | omega | (simp only [szR] <;> omega))) (he.ext (S := []) (by (repeat first | assumption | exact Ext.refl | apply Ext.alloc | apply Ext.drew | (refine Ext.updN ?_ ?_; (focus first | omega | (simp only [szR] <;> omega))) | (refine Ext.updI ?_ ?_; (focus (simp; done))))) (by simp)) (deC_all D) (by simp; omega) (by first | omega | (simp only [szR] <;> omega)) fun v1 w1 ho1 hp1 => ?_
    have hx1 := hp1.ext w [] (Nat.le_refl _) (by (repeat first | assumption | exact Ext.refl | apply Ext.alloc | apply Ext.drew | (refine Ext.updN ?_ ?_; (focus first | omega | (simp only [szR] <;> omega))) | (refine Ext.updI ?_ ?_; (focus (simp; done)))))
    have h5' := hx1.at h5 (by simp)
    have h21' := hx1.at h21 (by simp)
    have s1 := hx1.size
    have s1' := hp1.step.size
    try simp only [szR] at s1'
    simp (disch := first | assumption | omega | (simp only [szR, entC_len, entC_all, un_len] <;> omega) | rfl | decide) only [gen0, gen1, gen2, rulesM, rulesU, litR, bolR, Nat.reduceAdd, Nat.reduceLeDiff, numR, memR, valR, heapR, updR, intR, decR, extR, slR, segR, thenR, pnR, Int.reduceToNat, Int.reduceAdd, Int.reduceSub, Int.reduceLT, Int.reduceLE, Nat.reduceSub, Nat.reduceMul, Nat.reduceEqDiff, h5', h21', entC_sub]
    refine app87 (base := w.heap.size) (rows2 := [entC f n]) (ho1.ext (S := []) (by (repeat first | assumption | exact Ext.refl | apply Ext.alloc | apply Ext.drew | (refine Ext.updN ?_ ?_; (focus first | omega | (simp only [szR] <;> omega))) | (refine Ext.updI ?_ ?_; (focus (simp; done))))) (by simp)) (RowsAt.one (l := entC f n) (f := (0, 0)) (E := 37) (by first | (simp (disch := first | assumption | omega | (simp only [szR, entC_len, entC_all, un_len] <;> omega) | rfl | decide) only [gen0, gen1, gen2, rulesM, rulesU, litR, bolR, Nat.reduceAdd, Nat.reduceLeDiff, numR, memR, valR, heapR, updR, intR, decR, extR, slR, segR, thenR, pnR, Int.reduceToNat, Int.reduceAdd, Int.reduceSub, Int.reduceLT, Int.reduceLE, Nat.reduceSub, Nat.reduceMul, Nat.reduceEqDiff]; done) | exact hp1.step.at (by first | with_reducible rfl | assumption | (simp (disch := first | assumption | omega | (simp only [szR, entC_len, entC_all, un_len] <;> omega) | rfl | decide) only [gen0, gen1, gen2, rulesM, rulesU, litR, bolR, Nat.reduceAdd, Nat.reduceLeDiff, numR, memR, valR, heapR, updR, intR, decR, extR, slR, segR, thenR, pnR, Int.reduceToNat, Int.reduceAdd, Int.reduceSub, Int.reduceLT, Int.reduceLE, Nat.reduceSub, Nat.reduceMul, Nat.reduceEqDiff] <;> rfl)) (by simp [blockOf] <;> omega)) (entC_len _ _)) (fun r hr => by rw [List.mem_singleton.1 hr]; exact entC_all _ _) (by simp; omega) (by first | omega | (simp only [szR] <;> omega)) fun v2 w2 ho2 hp2 => ?_
    have hx2 := hp2.ext w [] (Nat.le_refl _) (by (repeat first | assumption | exact Ext.refl | apply Ext.alloc | apply Ext.drew | (refine Ext.updN ?_ ?_; (focus first | omega | (simp only [szR] <;> omega))) | (refine Ext.updI ?_ ?_; (focus (simp; done)))))
    have h5'' := hx2.at h5 (by simp)
    obtain ⟨a2, c2, rfl⟩ := ho2.rows.len
    simp (disch := first | assumption | omega | (simp only [szR, entC_len, entC_all, un_len] <;> omega) | rfl | decide) only [gen0, gen1, gen2, rulesM, rulesU, litR, bolR, Nat.reduceAdd, Nat.reduceLeDiff, numR, memR, valR, heapR, updR, intR, decR, extR, slR, segR, thenR, pnR, Int.reduceToNat, Int.reduceAdd, Int.reduceSub, Int.reduceLT, Int.reduceLE, Nat.reduceSub, Nat.reduceMul, Nat.reduceEqDiff, h5'']
    exact hfin _ _ w2 (by simpa using ho2) hx2 h5'' rfl
set_option maxHeartbeats 16000000 in
theorem slow12 {w0 w : World} {base c ro ai va A B : Nat} {vl ve : Value} {R : List Rn} {D : List Dn} {g t : Bool} {L : List Value} {m : Nat → Int} {P : List (Nat × Int)} {xa xb : Value} {k : Int}
    (f0 : Fr12 w0 w [vl, ve, .int .u64 ro, .int .u64 ai, .bool g] L) (h : RMem w0 base L 8 m c P xa xb) (hbase : base ≤ w0.heap.size) (hm : Byte m) (hc : c ≤ 10000)
    (hl : RowsAt w0 vl 3 (R.map rfC)) (hR : R.length ≤ 100) (hRn : ∀ x ∈ R, 0 ≤ x.n) (hvl : ∃ a c, vl = .slice a R.length c) (hve : ∃ a c, ve = .slice a D.length c)
    (he : RowsAt w0 ve 13 (D.map deC)) (hD : D.length ≤ 100) {T : List Nat} (hT : ∀ k ∈ T, k < w0.heap.size) (hxT : P ≠ [] → ∀ b, blockOf xa = some b ∨ blockOf xb = some b → b ∉ T)
    (p1 : A ≤ (R.filter (fun r => !(r.a == (ai : Int) && r.n == ((va / 4096 : Nat) : Int)))).length) (p2 : B ≤ A)
    (p3 : ∀ j (h : j < (R.filter (fun r => !(r.a == (ai : Int) && r.n == ((va / 4096 : Nat) : Int)))).length), (R.filter (fun r => !(r.a == (ai : Int) && r.n == ((va / 4096 : Nat) : Int))))[j].n % 4 ≤ ((va / 4096 : Nat) : Int) % 4 ↔ j < A)
    (p4 : ∀ j (h : j < (R.filter (fun r => !(r.a == (ai : Int) && r.n == ((va / 4096 : Nat) : Int)))).length), (R.filter (fun r => !(r.a == (ai : Int) && r.n == ((va / 4096 : Nat) : Int))))[j].n % 4 = ((va / 4096 : Nat) : Int) % 4 ↔ B ≤ j ∧ j < A)
    (hro : ro < 18446744073709551616) (hai : ai < 18446744073709551616) (hva : va < 18446744073709551616) {K : Value → World → Prop}
    (k2 : walkA (fun a => leN m a 8) 8 ro va = none → ∀ vl' w', RowsAt w' vl' 3 ((R.filter (fun r => !(r.a == (ai : Int) && r.n == ((va / 4096 : Nat) : Int)))).map rfC) → (∀ b, blockOf vl' = some b → w0.heap.size ≤ b) → Ext [] w0 w' → K (.tuple #[.agg (ruC vl' ve ro ai g).toArray, .agg L.toArray, .agg (plC 0 false).toArray, .int .i64 1]) w')
    (k3 : ∀ x a, walkA (fun a => leN m a 8) 8 ro va = some (x, a) → checkA (fl x) k t g ≠ 0 → ∀ w', Ext [] w0 w' → K (.tuple #[.agg (ruC vl ve ro ai g).toArray, .agg L.toArray, .agg (plC 0 false).toArray, .int .i64 (checkA (fl x) k t g)]) w')
    (k4 : ∀ x a, walkA (fun a => leN m a 8) 8 ro va = some (x, a) → checkA (fl x) k t g = 0 → ∀ vl' ve' L' m' c' P' xa' xb' w', RowsAt w' vl' 3 ((rput (R.filter (fun r => !(r.a == (ai : Int) && r.n == ((va / 4096 : Nat) : Int)))) ⟨ai, (va / 4096 : Nat), D.length⟩ A B).map rfC) → (∀ b, blockOf vl' = some b → w0.heap.size ≤ b) →
      RowsAt w' ve' 13 ((D ++ [Dn.mk (markA (fl x) k t) (fr x) a]).map deC) → (∀ b, blockOf ve' = some b → w0.heap.size ≤ b) → RMem w' base L' 8 m' c' P' xa' xb' → (P' ≠ [] → ∀ b, blockOf xa' = some b ∨ blockOf xb' = some b → b ∉ T) → c' ≤ c + 8 → (m' = m ∧ eqE (markA (fl x) k t) (fr x) (fl x) (fr x) = true ∨ m' = stored m a 8 (wd (markA (fl x) k t) (fr x) : Nat) ∧ eqE (markA (fl x) k t) (fr x) (fl x) (fr x) = false) → Ext [] w0 w' →
      K (.tuple #[.agg (ruC vl' ve' ro ai g).toArray, .agg L'.toArray, .agg (plA (markA (fl x) k t) (fr x) va k).toArray, .int .i64 0]) w') :
    (fun v5 v6 v10 v11 v12 t2 t3 t4 => ((fun s9 w => ∀ _ : Nat → Value,
  kV Try.prog (Instr.loadAt 28 v6) w fun v69 w =>
  kV Try.prog (Instr.fieldAt 89 v5 2) w fun v70 w =>
  kV Try.prog (Instr.loadAt 23 v70) w fun v71 w =>
  kN Try.prog (callN (.func (.func 13) #[] #[]) #[v69, v71, t2]) w fun v73 w =>
  kV Try.prog (Instr.extract v73 0) w fun v74 w =>
  kV Try.prog (Instr.extract v73 1) w fun v75 w =>
  kV Try.prog (Instr.extract v73 2) w fun v76 w =>
  kV Try.prog (Instr.alloc 37 true (.tuple #[])) w fun v18 w =>
  kU Try.prog (Instr.storeAt 37 v18 v74) w fun _ w =>
  kV Try.prog (binV .neq 3 (.tmp 77) (.const (.int .i64 0)) v76 (.int .i64 0)) w fun v78 w =>
  condK v78
  (kV Try.prog (Instr.fieldAt 89 v5 0) w fun v79 w =>
  kV Try.prog (Instr.loadAt 86 v79) w fun v80 w =>
  kV Try.prog (Instr.fieldAt 89 v5 3) w fun v81 w =>
  kV Try.prog (Instr.loadAt 23 v81) w fun v82 w =>
  kV Try.prog (binV .quo 23 (.tmp 83) (.const (.int .u64 4096)) t2 (.int .u64 4096)) w fun v84 w =>
  kN Try.prog (callN (.func (.func 38) #[] #[]) #[v80, v82, v84]) w fun v85 w =>
  kV Try.prog (Instr.fieldAt 89 v5 0) w fun v86 w =>
  kU Try.prog (Instr.storeAt 86 v86 v85) w fun _ w =>
  drewK (fun w =>
  pV Try.prog (Instr.build 92 #[]) fun v89 =>
  (kV Try.prog (Instr.loadAt 89 v5) w fun v87 w =>
  (kV Try.prog (Instr.loadAt 28 v6) w fun v88 w =>
  kU Try.prog (Instr.storeAt 89 v10 v87) w fun _ w =>
  kU Try.prog (Instr.storeAt 28 v11 v88) w fun _ w =>
  kU Try.prog (Instr.storeAt 92 v12 v89) w fun _ w =>
  retV Try.prog 89 v10 w fun r11 =>
  retV Try.prog 28 v11 w fun r12 =>
  retV Try.prog 92 v12 w fun r13 =>
  K (.tuple #[r11, r12, r13, v76]) w) ∧
  (kU Try.prog (Instr.storeAt 89 v10 v87) w fun _ w =>
  kV Try.prog (Instr.loadAt 28 v6) w fun v88_1 w =>
  kU Try.prog (Instr.storeAt 28 v11 v88_1) w fun _ w =>
  kU Try.prog (Instr.storeAt 92 v12 v89) w fun _ w =>
  retV Try.prog 89 v10 w fun r14 =>
  retV Try.prog 28 v11 w fun r15 =>
  retV Try.prog 92 v12 w fun r16 =>
  K (.tuple #[r14, r15, r16, v76]) w)) ∧
  (kV Try.prog (Instr.loadAt 28 v6) w fun v88_2 w =>
  kV Try.prog (Instr.loadAt 89 v5) w fun v87_1 w =>
  kU Try.prog (Instr.storeAt 89 v10 v87_1) w fun _ w =>
  kU Try.prog (Instr.storeAt 28 v11 v88_2) w fun _ w =>
  kU Try.prog (Instr.storeAt 92 v12 v89) w fun _ w =>
  retV Try.prog 89 v10 w fun r17 =>
  retV Try.prog 28 v11 w fun r18 =>
  retV Try.prog 92 v12 w fun r19 =>
  K (.tuple #[r17, r18, r19, v76]) w)) w)
  (kV Try.prog (Instr.loadAt 37 v18) w fun v91 w =>
  kV Try.prog (Instr.fieldAt 89 v5 4) w fun v94 w =>
  kV Try.prog (Instr.loadAt 4 v94) w fun v95 w =>
  kN Try.prog (callN (.func (.func 22) #[] #[]) #[v91, t3, t4, v95]) w fun v96 w =>
  kV Try.prog (binV .neq 3 (.tmp 97) (.const (.int .i64 0)) v96 (.int .i64 0)) w fun v98 w =>
  condK v98
  (drewK (fun w =>
  pV Try.prog (Instr.build 92 #[]) fun v101 =>
  (kV Try.prog (Instr.loadAt 89 v5) w fun v99 w =>
  (kV Try.prog (Instr.loadAt 28 v6) w fun v100 w =>
  kU Try.prog (Instr.storeAt 89 v10 v99) w fun _ w =>
  kU Try.prog (Instr.storeAt 28 v11 v100) w fun _ w =>
  kU Try.prog (Instr.storeAt 92 v12 v101) w fun _ w =>
  retV Try.prog 89 v10 w fun r20 =>
  retV Try.prog 28 v11 w fun r21 =>
  retV Try.prog 92 v12 w fun r22 =>
  K (.tuple #[r20, r21, r22, v96]) w) ∧
  (kU Try.prog (Instr.storeAt 89 v10 v99) w fun _ w =>
  kV Try.prog (Instr.loadAt 28 v6) w fun v100_1 w =>
  kU Try.prog (Instr.storeAt 28 v11 v100_1) w fun _ w =>
  kU Try.prog (Instr.storeAt 92 v12 v101) w fun _ w =>
  retV Try.prog 89 v10 w fun r23 =>
  retV Try.prog 28 v11 w fun r24 =>
  retV Try.prog 92 v12 w fun r25 =>
  K (.tuple #[r23, r24, r25, v96]) w)) ∧
  (kV Try.prog (Instr.loadAt 28 v6) w fun v100_2 w =>
  kV Try.prog (Instr.loadAt 89 v5) w fun v99_1 w =>
  kU Try.prog (Instr.storeAt 89 v10 v99_1) w fun _ w =>
  kU Try.prog (Instr.storeAt 28 v11 v100_2) w fun _ w =>
  kU Try.prog (Instr.storeAt 92 v12 v101) w fun _ w =>
  retV Try.prog 89 v10 w fun r26 =>
  retV Try.prog 28 v11 w fun r27 =>
  retV Try.prog 92 v12 w fun r28 =>
  K (.tuple #[r26, r27, r28, v96]) w)) w)
  (kV Try.prog (Instr.loadAt 37 v18) w fun v103 w =>
  kN Try.prog (callN (.func (.func 24) #[] #[]) #[v103, t3, t4]) w fun v106 w =>
  kV Try.prog (Instr.alloc 37 true (.tuple #[])) w fun v21 w =>
  kU Try.prog (Instr.storeAt 37 v21 v106) w fun _ w =>
  joinL (fun J29 =>
  kV Try.prog (Instr.loadAt 37 v21) w fun v107 w =>
  kV Try.prog (Instr.loadAt 37 v18) w fun v108 w =>
  kV Try.prog (binV .neq 37 (.tmp 107) (.tmp 108) v107 v108) w fun v109 w =>
  condK v109
  (drewK (fun w =>
  (kV Try.prog (Instr.loadAt 28 v6) w fun v111 w =>
  kV Try.prog (Instr.loadAt 37 v21) w fun v113 w =>
  kN Try.prog (callN (.func (.func 36) #[] #[]) #[v113]) w fun v114 w =>
  kN Try.prog (callN (.func (.func 35) #[] #[]) #[v111, v75, (.int .i64 8), v114]) w fun v115 w =>
  pV Try.prog (Instr.extract v115 0) fun v116 =>
  pV Try.prog (Instr.extract v115 1) fun v117 =>
  kU Try.prog (Instr.storeAt 28 v6 v116) w fun _ w =>
  J29 [] w) ∧
  (kV Try.prog (Instr.loadAt 37 v21) w fun v113_1 w =>
  (kV Try.prog (Instr.loadAt 28 v6) w fun v111_1 w =>
  kN Try.prog (callN (.func (.func 36) #[] #[]) #[v113_1]) w fun v114_1 w =>
  kN Try.prog (callN (.func (.func 35) #[] #[]) #[v111_1, v75, (.int .i64 8), v114_1]) w fun v115_1 w =>
  pV Try.prog (Instr.extract v115_1 0) fun v116_1 =>
  pV Try.prog (Instr.extract v115_1 1) fun v117_1 =>
  kU Try.prog (Instr.storeAt 28 v6 v116_1) w fun _ w =>
  J29 [] w) ∧
  (kN Try.prog (callN (.func (.func 36) #[] #[]) #[v113_1]) w fun v114_2 w =>
  kV Try.prog (Instr.loadAt 28 v6) w fun v111_2 w =>
  kN Try.prog (callN (.func (.func 35) #[] #[]) #[v111_2, v75, (.int .i64 8), v114_2]) w fun v115_2 w =>
  pV Try.prog (Instr.extract v115_2 0) fun v116_2 =>
  pV Try.prog (Instr.extract v115_2 1) fun v117_2 =>
  kU Try.prog (Instr.storeAt 28 v6 v116_2) w fun _ w =>
  J29 [] w))) w)
  (J29 [] w)) fun s29 w => ∀ _ : Nat → Value,
  joinL (fun J31 =>
  drewK (fun w =>
  pV Try.prog (Instr.fieldAt 89 v5 1) fun v119 =>
  (kV Try.prog (Instr.buildSlice 87 0 #[]) w fun v118 w =>
  (kV Try.prog (Instr.loadAt 87 v119) w fun v120 w =>
  (kV Try.prog (Builtin.append_ #[87, 87] 87 #[v118, v120]) w fun v121 w =>
  kV Try.prog (Instr.loadAt 37 v21) w fun v122 w =>
  kV Try.prog (Instr.buildSlice 87 1 #[(0, v122)]) w fun v123 w =>
  kV Try.prog (Builtin.append_ #[87, 87] 87 #[v121, v123]) w fun v124 w =>
  pV Try.prog (Instr.fieldAt 89 v5 1) fun v125 =>
  kU Try.prog (Instr.storeAt 87 v125 v124) w fun _ w =>
  J31 [] w) ∧
  (kV Try.prog (Instr.loadAt 37 v21) w fun v122_1 w =>
  (kV Try.prog (Builtin.append_ #[87, 87] 87 #[v118, v120]) w fun v121_1 w =>
  kV Try.prog (Instr.buildSlice 87 1 #[(0, v122_1)]) w fun v123_1 w =>
  kV Try.prog (Builtin.append_ #[87, 87] 87 #[v121_1, v123_1]) w fun v124_1 w =>
  pV Try.prog (Instr.fieldAt 89 v5 1) fun v125_1 =>
  kU Try.prog (Instr.storeAt 87 v125_1 v124_1) w fun _ w =>
  J31 [] w) ∧
  (kV Try.prog (Instr.buildSlice 87 1 #[(0, v122_1)]) w fun v123_2 w =>
  kV Try.prog (Builtin.append_ #[87, 87] 87 #[v118, v120]) w fun v121_2 w =>
  kV Try.prog (Builtin.append_ #[87, 87] 87 #[v121_2, v123_2]) w fun v124_2 w =>
  pV Try.prog (Instr.fieldAt 89 v5 1) fun v125_2 =>
  kU Try.prog (Instr.storeAt 87 v125_2 v124_2) w fun _ w =>
  J31 [] w))) ∧
  (kV Try.prog (Instr.loadAt 37 v21) w fun v122_2 w =>
  (kV Try.prog (Instr.loadAt 87 v119) w fun v120_1 w =>
  (kV Try.prog (Builtin.append_ #[87, 87] 87 #[v118, v120_1]) w fun v121_3 w =>
  kV Try.prog (Instr.buildSlice 87 1 #[(0, v122_2)]) w fun v123_3 w =>
  kV Try.prog (Builtin.append_ #[87, 87] 87 #[v121_3, v123_3]) w fun v124_3 w =>
  pV Try.prog (Instr.fieldAt 89 v5 1) fun v125_3 =>
  kU Try.prog (Instr.storeAt 87 v125_3 v124_3) w fun _ w =>
  J31 [] w) ∧
  (kV Try.prog (Instr.buildSlice 87 1 #[(0, v122_2)]) w fun v123_4 w =>
  kV Try.prog (Builtin.append_ #[87, 87] 87 #[v118, v120_1]) w fun v121_4 w =>
  kV Try.prog (Builtin.append_ #[87, 87] 87 #[v121_4, v123_4]) w fun v124_4 w =>
  pV Try.prog (Instr.fieldAt 89 v5 1) fun v125_4 =>
  kU Try.prog (Instr.storeAt 87 v125_4 v124_4) w fun _ w =>
  J31 [] w)) ∧
  (kV Try.prog (Instr.buildSlice 87 1 #[(0, v122_2)]) w fun v123_5 w =>
  kV Try.prog (Instr.loadAt 87 v119) w fun v120_2 w =>
  kV Try.prog (Builtin.append_ #[87, 87] 87 #[v118, v120_2]) w fun v121_5 w =>
  kV Try.prog (Builtin.append_ #[87, 87] 87 #[v121_5, v123_5]) w fun v124_5 w =>
  pV Try.prog (Instr.fieldAt 89 v5 1) fun v125_5 =>
  kU Try.prog (Instr.storeAt 87 v125_5 v124_5) w fun _ w =>
  J31 [] w))) ∧
  (kV Try.prog (Instr.loadAt 87 v119) w fun v120_3 w =>
  (kV Try.prog (Instr.buildSlice 87 0 #[]) w fun v118_1 w =>
  (kV Try.prog (Builtin.append_ #[87, 87] 87 #[v118_1, v120_3]) w fun v121_6 w =>
  kV Try.prog (Instr.loadAt 37 v21) w fun v122_3 w =>
  kV Try.prog (Instr.buildSlice 87 1 #[(0, v122_3)]) w fun v123_6 w =>
  kV Try.prog (Builtin.append_ #[87, 87] 87 #[v121_6, v123_6]) w fun v124_6 w =>
  pV Try.prog (Instr.fieldAt 89 v5 1) fun v125_6 =>
  kU Try.prog (Instr.storeAt 87 v125_6 v124_6) w fun _ w =>
  J31 [] w) ∧
  (kV Try.prog (Instr.loadAt 37 v21) w fun v122_4 w =>
  (kV Try.prog (Builtin.append_ #[87, 87] 87 #[v118_1, v120_3]) w fun v121_7 w =>
  kV Try.prog (Instr.buildSlice 87 1 #[(0, v122_4)]) w fun v123_7 w =>
  kV Try.prog (Builtin.append_ #[87, 87] 87 #[v121_7, v123_7]) w fun v124_7 w =>
  pV Try.prog (Instr.fieldAt 89 v5 1) fun v125_7 =>
  kU Try.prog (Instr.storeAt 87 v125_7 v124_7) w fun _ w =>
  J31 [] w) ∧
  (kV Try.prog (Instr.buildSlice 87 1 #[(0, v122_4)]) w fun v123_8 w =>
  kV Try.prog (Builtin.append_ #[87, 87] 87 #[v118_1, v120_3]) w fun v121_8 w =>
  kV Try.prog (Builtin.append_ #[87, 87] 87 #[v121_8, v123_8]) w fun v124_8 w =>
  pV Try.prog (Instr.fieldAt 89 v5 1) fun v125_8 =>
  kU Try.prog (Instr.storeAt 87 v125_8 v124_8) w fun _ w =>
  J31 [] w))) ∧
  (kV Try.prog (Instr.loadAt 37 v21) w fun v122_5 w =>
  (kV Try.prog (Instr.buildSlice 87 0 #[]) w fun v118_2 w =>
  (kV Try.prog (Builtin.append_ #[87, 87] 87 #[v118_2, v120_3]) w fun v121_9 w =>
  kV Try.prog (Instr.buildSlice 87 1 #[(0, v122_5)]) w fun v123_9 w =>
  kV Try.prog (Builtin.append_ #[87, 87] 87 #[v121_9, v123_9]) w fun v124_9 w =>
  pV Try.prog (Instr.fieldAt 89 v5 1) fun v125_9 =>
  kU Try.prog (Instr.storeAt 87 v125_9 v124_9) w fun _ w =>
  J31 [] w) ∧
  (kV Try.prog (Instr.buildSlice 87 1 #[(0, v122_5)]) w fun v123_10 w =>
  kV Try.prog (Builtin.append_ #[87, 87] 87 #[v118_2, v120_3]) w fun v121_10 w =>
  kV Try.prog (Builtin.append_ #[87, 87] 87 #[v121_10, v123_10]) w fun v124_10 w =>
  pV Try.prog (Instr.fieldAt 89 v5 1) fun v125_10 =>
  kU Try.prog (Instr.storeAt 87 v125_10 v124_10) w fun _ w =>
  J31 [] w)) ∧
  (kV Try.prog (Instr.buildSlice 87 1 #[(0, v122_5)]) w fun v123_11 w =>
  kV Try.prog (Instr.buildSlice 87 0 #[]) w fun v118_3 w =>
  kV Try.prog (Builtin.append_ #[87, 87] 87 #[v118_3, v120_3]) w fun v121_11 w =>
  kV Try.prog (Builtin.append_ #[87, 87] 87 #[v121_11, v123_11]) w fun v124_11 w =>
  pV Try.prog (Instr.fieldAt 89 v5 1) fun v125_11 =>
  kU Try.prog (Instr.storeAt 87 v125_11 v124_11) w fun _ w =>
  J31 [] w))) ∧
  (kV Try.prog (Instr.loadAt 37 v21) w fun v122_6 w =>
  (kV Try.prog (Instr.buildSlice 87 0 #[]) w fun v118_4 w =>
  (kV Try.prog (Instr.loadAt 87 v119) w fun v120_4 w =>
  (kV Try.prog (Builtin.append_ #[87, 87] 87 #[v118_4, v120_4]) w fun v121_12 w =>
  kV Try.prog (Instr.buildSlice 87 1 #[(0, v122_6)]) w fun v123_12 w =>
  kV Try.prog (Builtin.append_ #[87, 87] 87 #[v121_12, v123_12]) w fun v124_12 w =>
  pV Try.prog (Instr.fieldAt 89 v5 1) fun v125_12 =>
  kU Try.prog (Instr.storeAt 87 v125_12 v124_12) w fun _ w =>
  J31 [] w) ∧
  (kV Try.prog (Instr.buildSlice 87 1 #[(0, v122_6)]) w fun v123_13 w =>
  kV Try.prog (Builtin.append_ #[87, 87] 87 #[v118_4, v120_4]) w fun v121_13 w =>
  kV Try.prog (Builtin.append_ #[87, 87] 87 #[v121_13, v123_13]) w fun v124_13 w =>
  pV Try.prog (Instr.fieldAt 89 v5 1) fun v125_13 =>
  kU Try.prog (Instr.storeAt 87 v125_13 v124_13) w fun _ w =>
  J31 [] w)) ∧
  (kV Try.prog (Instr.buildSlice 87 1 #[(0, v122_6)]) w fun v123_14 w =>
  kV Try.prog (Instr.loadAt 87 v119) w fun v120_5 w =>
  kV Try.prog (Builtin.append_ #[87, 87] 87 #[v118_4, v120_5]) w fun v121_14 w =>
  kV Try.prog (Builtin.append_ #[87, 87] 87 #[v121_14, v123_14]) w fun v124_14 w =>
  pV Try.prog (Instr.fieldAt 89 v5 1) fun v125_14 =>
  kU Try.prog (Instr.storeAt 87 v125_14 v124_14) w fun _ w =>
  J31 [] w)) ∧
  (kV Try.prog (Instr.loadAt 87 v119) w fun v120_6 w =>
  (kV Try.prog (Instr.buildSlice 87 0 #[]) w fun v118_5 w =>
  (kV Try.prog (Builtin.append_ #[87, 87] 87 #[v118_5, v120_6]) w fun v121_15 w =>
  kV Try.prog (Instr.buildSlice 87 1 #[(0, v122_6)]) w fun v123_15 w =>
  kV Try.prog (Builtin.append_ #[87, 87] 87 #[v121_15, v123_15]) w fun v124_15 w =>
  pV Try.prog (Instr.fieldAt 89 v5 1) fun v125_15 =>
  kU Try.prog (Instr.storeAt 87 v125_15 v124_15) w fun _ w =>
  J31 [] w) ∧
  (kV Try.prog (Instr.buildSlice 87 1 #[(0, v122_6)]) w fun v123_16 w =>
  kV Try.prog (Builtin.append_ #[87, 87] 87 #[v118_5, v120_6]) w fun v121_16 w =>
  kV Try.prog (Builtin.append_ #[87, 87] 87 #[v121_16, v123_16]) w fun v124_16 w =>
  pV Try.prog (Instr.fieldAt 89 v5 1) fun v125_16 =>
  kU Try.prog (Instr.storeAt 87 v125_16 v124_16) w fun _ w =>
  J31 [] w)) ∧
  (kV Try.prog (Instr.buildSlice 87 1 #[(0, v122_6)]) w fun v123_17 w =>
  kV Try.prog (Instr.buildSlice 87 0 #[]) w fun v118_6 w =>
  kV Try.prog (Builtin.append_ #[87, 87] 87 #[v118_6, v120_6]) w fun v121_17 w =>
  kV Try.prog (Builtin.append_ #[87, 87] 87 #[v121_17, v123_17]) w fun v124_17 w =>
  pV Try.prog (Instr.fieldAt 89 v5 1) fun v125_17 =>
  kU Try.prog (Instr.storeAt 87 v125_17 v124_17) w fun _ w =>
  J31 [] w)) ∧
  (kV Try.prog (Instr.buildSlice 87 1 #[(0, v122_6)]) w fun v123_18 w =>
  (kV Try.prog (Instr.buildSlice 87 0 #[]) w fun v118_7 w =>
  kV Try.prog (Instr.loadAt 87 v119) w fun v120_7 w =>
  kV Try.prog (Builtin.append_ #[87, 87] 87 #[v118_7, v120_7]) w fun v121_18 w =>
  kV Try.prog (Builtin.append_ #[87, 87] 87 #[v121_18, v123_18]) w fun v124_18 w =>
  pV Try.prog (Instr.fieldAt 89 v5 1) fun v125_18 =>
  kU Try.prog (Instr.storeAt 87 v125_18 v124_18) w fun _ w =>
  J31 [] w) ∧
  (kV Try.prog (Instr.loadAt 87 v119) w fun v120_8 w =>
  kV Try.prog (Instr.buildSlice 87 0 #[]) w fun v118_8 w =>
  kV Try.prog (Builtin.append_ #[87, 87] 87 #[v118_8, v120_8]) w fun v121_19 w =>
  kV Try.prog (Builtin.append_ #[87, 87] 87 #[v121_19, v123_18]) w fun v124_19 w =>
  pV Try.prog (Instr.fieldAt 89 v5 1) fun v125_19 =>
  kU Try.prog (Instr.storeAt 87 v125_19 v124_19) w fun _ w =>
  J31 [] w)))) w) fun s31 w => ∀ _ : Nat → Value,
  kV Try.prog (Instr.fieldAt 89 v5 0) w fun v126 w =>
  kV Try.prog (Instr.loadAt 86 v126) w fun v127 w =>
  kV Try.prog (Instr.fieldAt 89 v5 3) w fun v128 w =>
  kV Try.prog (Instr.loadAt 23 v128) w fun v129 w =>
  kV Try.prog (binV .quo 23 (.tmp 130) (.const (.int .u64 4096)) t2 (.int .u64 4096)) w fun v131 w =>
  kV Try.prog (Instr.fieldAt 89 v5 1) w fun v132 w =>
  kV Try.prog (Instr.loadAt 87 v132) w fun v133 w =>
  kV Try.prog (Builtin.len_ #[87] 3 #[v133]) w fun v134 w =>
  kV Try.prog (binV .sub 3 (.tmp 134) (.const (.int .i64 1)) v134 (.int .i64 1)) w fun v135 w =>
  kV Try.prog (convert 3 23 v135) w fun v136 w =>
  kV Try.prog (Instr.build 153 #[(0, v129), (1, v131), (2, v136)]) w fun v137 w =>
  kN Try.prog (callN (.func (.func 78) #[] #[]) #[v127, v137]) w fun v138 w =>
  kV Try.prog (Instr.fieldAt 89 v5 0) w fun v139 w =>
  kU Try.prog (Instr.storeAt 86 v139 v138) w fun _ w =>
  drewK (fun w =>
  (kV Try.prog (Instr.loadAt 89 v5) w fun v140 w =>
  (kV Try.prog (Instr.loadAt 28 v6) w fun v141 w =>
  kV Try.prog (Instr.loadAt 37 v21) w fun v142 w =>
  kN Try.prog (callN (.func (.func 77) #[] #[]) #[v142, t2, t3]) w fun v145 w =>
  kU Try.prog (Instr.storeAt 89 v10 v140) w fun _ w =>
  kU Try.prog (Instr.storeAt 28 v11 v141) w fun _ w =>
  kU Try.prog (Instr.storeAt 92 v12 v145) w fun _ w =>
  retV Try.prog 89 v10 w fun r33 =>
  retV Try.prog 28 v11 w fun r34 =>
  retV Try.prog 92 v12 w fun r35 =>
  K (.tuple #[r33, r34, r35, (.int .i64 0)]) w) ∧
  (kV Try.prog (Instr.loadAt 37 v21) w fun v142_1 w =>
  (kV Try.prog (Instr.loadAt 28 v6) w fun v141_1 w =>
  kN Try.prog (callN (.func (.func 77) #[] #[]) #[v142_1, t2, t3]) w fun v145_1 w =>
  kU Try.prog (Instr.storeAt 89 v10 v140) w fun _ w =>
  kU Try.prog (Instr.storeAt 28 v11 v141_1) w fun _ w =>
  kU Try.prog (Instr.storeAt 92 v12 v145_1) w fun _ w =>
  retV Try.prog 89 v10 w fun r36 =>
  retV Try.prog 28 v11 w fun r37 =>
  retV Try.prog 92 v12 w fun r38 =>
  K (.tuple #[r36, r37, r38, (.int .i64 0)]) w) ∧
  (kN Try.prog (callN (.func (.func 77) #[] #[]) #[v142_1, t2, t3]) w fun v145_2 w =>
  (kV Try.prog (Instr.loadAt 28 v6) w fun v141_2 w =>
  kU Try.prog (Instr.storeAt 89 v10 v140) w fun _ w =>
  kU Try.prog (Instr.storeAt 28 v11 v141_2) w fun _ w =>
  kU Try.prog (Instr.storeAt 92 v12 v145_2) w fun _ w =>
  retV Try.prog 89 v10 w fun r39 =>
  retV Try.prog 28 v11 w fun r40 =>
  retV Try.prog 92 v12 w fun r41 =>
  K (.tuple #[r39, r40, r41, (.int .i64 0)]) w) ∧
  (kU Try.prog (Instr.storeAt 89 v10 v140) w fun _ w =>
  kV Try.prog (Instr.loadAt 28 v6) w fun v141_3 w =>
  kU Try.prog (Instr.storeAt 28 v11 v141_3) w fun _ w =>
  kU Try.prog (Instr.storeAt 92 v12 v145_2) w fun _ w =>
  retV Try.prog 89 v10 w fun r42 =>
  retV Try.prog 28 v11 w fun r43 =>
  retV Try.prog 92 v12 w fun r44 =>
  K (.tuple #[r42, r43, r44, (.int .i64 0)]) w)))) ∧
  (kV Try.prog (Instr.loadAt 28 v6) w fun v141_4 w =>
  (kV Try.prog (Instr.loadAt 89 v5) w fun v140_1 w =>
  kV Try.prog (Instr.loadAt 37 v21) w fun v142_2 w =>
  kN Try.prog (callN (.func (.func 77) #[] #[]) #[v142_2, t2, t3]) w fun v145_3 w =>
  kU Try.prog (Instr.storeAt 89 v10 v140_1) w fun _ w =>
  kU Try.prog (Instr.storeAt 28 v11 v141_4) w fun _ w =>
  kU Try.prog (Instr.storeAt 92 v12 v145_3) w fun _ w =>
  retV Try.prog 89 v10 w fun r45 =>
  retV Try.prog 28 v11 w fun r46 =>
  retV Try.prog 92 v12 w fun r47 =>
  K (.tuple #[r45, r46, r47, (.int .i64 0)]) w) ∧
  (kV Try.prog (Instr.loadAt 37 v21) w fun v142_3 w =>
  (kV Try.prog (Instr.loadAt 89 v5) w fun v140_2 w =>
  kN Try.prog (callN (.func (.func 77) #[] #[]) #[v142_3, t2, t3]) w fun v145_4 w =>
  kU Try.prog (Instr.storeAt 89 v10 v140_2) w fun _ w =>
  kU Try.prog (Instr.storeAt 28 v11 v141_4) w fun _ w =>
  kU Try.prog (Instr.storeAt 92 v12 v145_4) w fun _ w =>
  retV Try.prog 89 v10 w fun r48 =>
  retV Try.prog 28 v11 w fun r49 =>
  retV Try.prog 92 v12 w fun r50 =>
  K (.tuple #[r48, r49, r50, (.int .i64 0)]) w) ∧
  (kN Try.prog (callN (.func (.func 77) #[] #[]) #[v142_3, t2, t3]) w fun v145_5 w =>
  kV Try.prog (Instr.loadAt 89 v5) w fun v140_3 w =>
  kU Try.prog (Instr.storeAt 89 v10 v140_3) w fun _ w =>
  kU Try.prog (Instr.storeAt 28 v11 v141_4) w fun _ w =>
  kU Try.prog (Instr.storeAt 92 v12 v145_5) w fun _ w =>
  retV Try.prog 89 v10 w fun r51 =>
  retV Try.prog 28 v11 w fun r52 =>
  retV Try.prog 92 v12 w fun r53 =>
  K (.tuple #[r51, r52, r53, (.int .i64 0)]) w))) ∧
  (kV Try.prog (Instr.loadAt 37 v21) w fun v142_4 w =>
  (kV Try.prog (Instr.loadAt 89 v5) w fun v140_4 w =>
  (kV Try.prog (Instr.loadAt 28 v6) w fun v141_5 w =>
  kN Try.prog (callN (.func (.func 77) #[] #[]) #[v142_4, t2, t3]) w fun v145_6 w =>
  kU Try.prog (Instr.storeAt 89 v10 v140_4) w fun _ w =>
  kU Try.prog (Instr.storeAt 28 v11 v141_5) w fun _ w =>
  kU Try.prog (Instr.storeAt 92 v12 v145_6) w fun _ w =>
  retV Try.prog 89 v10 w fun r54 =>
  retV Try.prog 28 v11 w fun r55 =>
  retV Try.prog 92 v12 w fun r56 =>
  K (.tuple #[r54, r55, r56, (.int .i64 0)]) w) ∧
  (kN Try.prog (callN (.func (.func 77) #[] #[]) #[v142_4, t2, t3]) w fun v145_7 w =>
  (kV Try.prog (Instr.loadAt 28 v6) w fun v141_6 w =>
  kU Try.prog (Instr.storeAt 89 v10 v140_4) w fun _ w =>
  kU Try.prog (Instr.storeAt 28 v11 v141_6) w fun _ w =>
  kU Try.prog (Instr.storeAt 92 v12 v145_7) w fun _ w =>
  retV Try.prog 89 v10 w fun r57 =>
  retV Try.prog 28 v11 w fun r58 =>
  retV Try.prog 92 v12 w fun r59 =>
  K (.tuple #[r57, r58, r59, (.int .i64 0)]) w) ∧
  (kU Try.prog (Instr.storeAt 89 v10 v140_4) w fun _ w =>
  kV Try.prog (Instr.loadAt 28 v6) w fun v141_7 w =>
  kU Try.prog (Instr.storeAt 28 v11 v141_7) w fun _ w =>
  kU Try.prog (Instr.storeAt 92 v12 v145_7) w fun _ w =>
  retV Try.prog 89 v10 w fun r60 =>
  retV Try.prog 28 v11 w fun r61 =>
  retV Try.prog 92 v12 w fun r62 =>
  K (.tuple #[r60, r61, r62, (.int .i64 0)]) w))) ∧
  (kV Try.prog (Instr.loadAt 28 v6) w fun v141_8 w =>
  (kV Try.prog (Instr.loadAt 89 v5) w fun v140_5 w =>
  kN Try.prog (callN (.func (.func 77) #[] #[]) #[v142_4, t2, t3]) w fun v145_8 w =>
  kU Try.prog (Instr.storeAt 89 v10 v140_5) w fun _ w =>
  kU Try.prog (Instr.storeAt 28 v11 v141_8) w fun _ w =>
  kU Try.prog (Instr.storeAt 92 v12 v145_8) w fun _ w =>
  retV Try.prog 89 v10 w fun r63 =>
  retV Try.prog 28 v11 w fun r64 =>
  retV Try.prog 92 v12 w fun r65 =>
  K (.tuple #[r63, r64, r65, (.int .i64 0)]) w) ∧
  (kN Try.prog (callN (.func (.func 77) #[] #[]) #[v142_4, t2, t3]) w fun v145_9 w =>
  kV Try.prog (Instr.loadAt 89 v5) w fun v140_6 w =>
  kU Try.prog (Instr.storeAt 89 v10 v140_6) w fun _ w =>
  kU Try.prog (Instr.storeAt 28 v11 v141_8) w fun _ w =>
  kU Try.prog (Instr.storeAt 92 v12 v145_9) w fun _ w =>
  retV Try.prog 89 v10 w fun r66 =>
  retV Try.prog 28 v11 w fun r67 =>
  retV Try.prog 92 v12 w fun r68 =>
  K (.tuple #[r66, r67, r68, (.int .i64 0)]) w)) ∧
  (kN Try.prog (callN (.func (.func 77) #[] #[]) #[v142_4, t2, t3]) w fun v145_10 w =>
  (kV Try.prog (Instr.loadAt 89 v5) w fun v140_7 w =>
  (kV Try.prog (Instr.loadAt 28 v6) w fun v141_9 w =>
  kU Try.prog (Instr.storeAt 89 v10 v140_7) w fun _ w =>
  kU Try.prog (Instr.storeAt 28 v11 v141_9) w fun _ w =>
  kU Try.prog (Instr.storeAt 92 v12 v145_10) w fun _ w =>
  retV Try.prog 89 v10 w fun r69 =>
  retV Try.prog 28 v11 w fun r70 =>
  retV Try.prog 92 v12 w fun r71 =>
  K (.tuple #[r69, r70, r71, (.int .i64 0)]) w) ∧
  (kU Try.prog (Instr.storeAt 89 v10 v140_7) w fun _ w =>
  kV Try.prog (Instr.loadAt 28 v6) w fun v141_10 w =>
  kU Try.prog (Instr.storeAt 28 v11 v141_10) w fun _ w =>
  kU Try.prog (Instr.storeAt 92 v12 v145_10) w fun _ w =>
  retV Try.prog 89 v10 w fun r72 =>
  retV Try.prog 28 v11 w fun r73 =>
  retV Try.prog 92 v12 w fun r74 =>
  K (.tuple #[r72, r73, r74, (.int .i64 0)]) w)) ∧
  (kV Try.prog (Instr.loadAt 28 v6) w fun v141_11 w =>
  kV Try.prog (Instr.loadAt 89 v5) w fun v140_8 w =>
  kU Try.prog (Instr.storeAt 89 v10 v140_8) w fun _ w =>
  kU Try.prog (Instr.storeAt 28 v11 v141_11) w fun _ w =>
  kU Try.prog (Instr.storeAt 92 v12 v145_10) w fun _ w =>
  retV Try.prog 89 v10 w fun r75 =>
  retV Try.prog 28 v11 w fun r76 =>
  retV Try.prog 92 v12 w fun r77 =>
  K (.tuple #[r75, r76, r77, (.int .i64 0)]) w)))) w))) : List Value → World → Prop)) (.pointer (some ⟨w0.heap.size, 0, none⟩)) (.pointer (some ⟨w0.heap.size + 1, 0, none⟩)) (.pointer (some ⟨w0.heap.size + 1 + 1, 0, none⟩)) (.pointer (some ⟨w0.heap.size + 1 + 1 + 1, 0, none⟩)) (.pointer (some ⟨w0.heap.size + 1 + 1 + 1 + 1, 0, none⟩)) (.int .u64 va) (.int .i64 k) (.bool t) [] w := by
  obtain ⟨al, cl, rfl⟩ := hvl
  obtain ⟨ae, ce, rfl⟩ := hve
  obtain ⟨hlen, hall, hsub⟩ := h.cells
  have hse : ∀ f n, splice [Value.bool false, .bool false, .bool false, .bool false, .bool false, .bool false, .bool false, .bool false, .bool false, .bool false, .bool false, .bool false, .int .u64 0] 0 (entC f n) = entC f n := fun f n => splice_over (by rw [entC_len]; rfl)
  have e0 : (va : Int) / 4096 = ((va / 4096 : Nat) : Int) := by omega
  have hd4 := dropL4 hlen
  have hs4 := spliceL4 hlen
  obtain ⟨c0, c1, c2, c3, c4, x1⟩ := id f0
  have l4 := lt_of_at c4
  simp only [ruC] at k2 k3 k4
  show ∀ _ : Nat → Value, _
  intro _
  simp (disch := first | assumption | omega | (simp only [szR, entC_len, entC_all, un_len] <;> omega) | rfl | decide) only [gen0, gen1, gen2, rulesM, rulesU, litR, bolR, Nat.reduceAdd, Nat.reduceLeDiff, numR, memR, valR, heapR, updR, intR, decR, extR, slR, segR, thenR, pnR, Int.reduceToNat, Int.reduceAdd, Int.reduceSub, Int.reduceLT, Int.reduceLE, Nat.reduceSub, Nat.reduceMul, Nat.reduceEqDiff, c0, c1, hsub, hlen]
  refine rwalk_spec (h.ext x1 (by simp)) hm (by omega) (by omega) hro hva fun w1 hx1 => ?_
  have f1 := f0.to hx1
  obtain ⟨c0, c1, c2, c3, c4, x1⟩ := id f1
  have l4 := lt_of_at c4
  cases hwa : walkA (fun a => leN m a 8) 8 ro va with
  | none =>
    have r2 := k2 hwa
    simp only [plC] at r2
    clear k2 k3 k4 p3 p4
    simp only [wkRef]
    simp (disch := first | assumption | omega | (simp only [szR, entC_len, entC_all, un_len] <;> omega) | rfl | decide) only [gen0, gen1, gen2, rulesM, rulesU, litR, bolR, Nat.reduceAdd, Nat.reduceLeDiff, numR, memR, valR, heapR, updR, intR, decR, extR, slR, segR, thenR, pnR, Int.reduceToNat, Int.reduceAdd, Int.reduceSub, Int.reduceLT, Int.reduceLE, Nat.reduceSub, Nat.reduceMul, Nat.reduceEqDiff, hse, c0, e0]
    refine rDrop_spec (hl.ext (S := []) (by (repeat first | assumption | exact Ext.refl | apply Ext.alloc | apply Ext.drew | (refine Ext.updN ?_ ?_; (focus first | omega | (simp only [szR] <;> omega))) | (refine Ext.updI ?_ ?_; (focus (simp; done))))) (by simp)) (by omega) fun vl' w2 ho2 hx2 => ?_
    have f2 := (f1.to (Ext.trans (S := []) (by (repeat first | assumption | exact Ext.refl | apply Ext.alloc | apply Ext.drew | (refine Ext.updN ?_ ?_; (focus first | omega | (simp only [szR] <;> omega))) | (refine Ext.updI ?_ ?_; (focus (simp; done))))) hx2 (by simp)))
    have hs2 := f2.ext.size
    have hb2 := ho2.block
    have hr2 := ho2.rows
    obtain ⟨al', cl', rfl⟩ := hr2.len
    obtain ⟨c0, c1, c2, c3, c4, x2⟩ := id f2
    have l5 := lt_of_at c4
    simp (disch := first | assumption | omega | (simp only [szR, entC_len, entC_all, un_len] <;> omega) | rfl | decide) only [gen0, gen1, gen2, rulesM, rulesU, litR, bolR, Nat.reduceAdd, Nat.reduceLeDiff, numR, memR, valR, heapR, updR, intR, decR, extR, slR, segR, thenR, pnR, Int.reduceToNat, Int.reduceAdd, Int.reduceSub, Int.reduceLT, Int.reduceLE, Nat.reduceSub, Nat.reduceMul, Nat.reduceEqDiff, c0, c1, c2, c3, c4, hsub, hlen, hall, hd4, hs4]
    refine ⟨⟨?_, ?_⟩, ?_⟩
    all_goals
      refine r2 _ _ (hr2.at (S := [w0.heap.size, w0.heap.size + 1, w0.heap.size + 1 + 1, w0.heap.size + 1 + 1 + 1, w0.heap.size + 1 + 1 + 1 + 1]) (by (repeat first | assumption | exact Ext.refl | apply Ext.alloc | apply Ext.drew | (refine Ext.updN ?_ ?_; (focus first | omega | (simp only [szR] <;> omega))) | (refine Ext.updI ?_ ?_; (focus (simp; done))))) fun b hb => ?_) (fun b hb => ?_) (by (repeat first | assumption | exact Ext.refl | apply Ext.alloc | apply Ext.drew | (refine Ext.updN ?_ ?_; (focus first | omega | (simp only [szR] <;> omega))) | (refine Ext.updI ?_ ?_; (focus (simp; done)))))
      · have := hb2 b hb
        simp only [szR] at this
        simp
        omega
      · have := hb2 b hb
        simp only [szR] at this
        omega
  | some p =>
    obtain ⟨x, a⟩ := p
    obtain ⟨hMa, hbad, ha8, halt⟩ := walkA_at hwa
    have hfr := fr_lt x
    have r3 := k3 x a hwa
    have r4 := k4 x a hwa
    clear k2 k3 k4
    simp only [wkRef]
    simp (disch := first | assumption | omega | (simp only [szR, entC_len, entC_all, un_len] <;> omega) | rfl | decide) only [gen0, gen1, gen2, rulesM, rulesU, litR, bolR, Nat.reduceAdd, Nat.reduceLeDiff, numR, memR, valR, heapR, updR, intR, decR, extR, slR, segR, thenR, pnR, Int.reduceToNat, Int.reduceAdd, Int.reduceSub, Int.reduceLT, Int.reduceLE, Nat.reduceSub, Nat.reduceMul, Nat.reduceEqDiff, hse, c0, entC_sub]
    refine rcheck_spec fun w2 hx2 => ?_
    have hk2 := kept0 hx2
    have d18 : w2.heap[w1.heap.size]? = some (.cells (entC (fl x) (fr x)).toArray 37 (0, 0)) := (by first | with_reducible rfl | assumption | (simp (disch := first | assumption | omega | (simp only [szR, entC_len, entC_all, un_len] <;> omega) | rfl | decide) only [gen0, gen1, gen2, rulesM, rulesU, litR, bolR, Nat.reduceAdd, Nat.reduceLeDiff, numR, memR, valR, heapR, updR, intR, decR, extR, slR, segR, thenR, pnR, Int.reduceToNat, Int.reduceAdd, Int.reduceSub, Int.reduceLT, Int.reduceLE, Nat.reduceSub, Nat.reduceMul, Nat.reduceEqDiff, hk2, hse] <;> rfl))
    have f2 := f1.to (Ext.trans (S := []) (by (repeat first | assumption | exact Ext.refl | apply Ext.alloc | apply Ext.drew | (refine Ext.updN ?_ ?_; (focus first | omega | (simp only [szR] <;> omega))) | (refine Ext.updI ?_ ?_; (focus (simp; done))))) hx2 (by simp))
    obtain ⟨c0, c1, c2, c3, c4, x2⟩ := id f2
    have l5 := lt_of_at c4
    have l18 := lt_of_at d18
    by_cases hcc : checkA (fl x) k t g = 0
    · have r4 := r4 hcc
      clear r3
      rw [hcc]
      simp (disch := first | assumption | omega | (simp only [szR, entC_len, entC_all, un_len] <;> omega) | rfl | decide) only [gen0, gen1, gen2, rulesM, rulesU, litR, bolR, Nat.reduceAdd, Nat.reduceLeDiff, numR, memR, valR, heapR, updR, intR, decR, extR, slR, segR, thenR, pnR, Int.reduceToNat, Int.reduceAdd, Int.reduceSub, Int.reduceLT, Int.reduceLE, Nat.reduceSub, Nat.reduceMul, Nat.reduceEqDiff, d18, entC_sub]
      refine RMarked_spec fun w3 hx3 => ?_
      have hx23 : Ext [] w2 w3 := Ext.trans (S := []) (by (repeat first | assumption | exact Ext.refl | apply Ext.alloc | apply Ext.drew | (refine Ext.updN ?_ ?_; (focus first | omega | (simp only [szR] <;> omega))) | (refine Ext.updI ?_ ?_; (focus (simp; done))))) hx3 (by simp)
      have d18 := hx23.at d18 (by simp)
      have f3 := f2.to hx23
      have l3 := lt_of_at d18
      have l6 := lt_of_at f3.c4
      simp (disch := first | assumption | omega | (simp only [szR, entC_len, entC_all, un_len] <;> omega) | rfl | decide) only [gen0, gen1, gen2, rulesM, rulesU, litR, bolR, Nat.reduceAdd, Nat.reduceLeDiff, numR, memR, valR, heapR, updR, intR, decR, extR, slR, segR, thenR, pnR, Int.reduceToNat, Int.reduceAdd, Int.reduceSub, Int.reduceLT, Int.reduceLE, Nat.reduceSub, Nat.reduceMul, Nat.reduceEqDiff, hse]
      refine joinL.intro fun J29 hJ29 => ?_
      have h29 : ∀ L' m' c' P' xa' xb' w4, Fr12 w0 w4 [.slice al R.length cl, .slice ae D.length ce, .int .u64 ro, .int .u64 ai, .bool g] L' → w4.heap[w3.heap.size]? = some (.cells (entC (markA (fl x) k t) (fr x)).toArray 37 (0, 0)) → RMem w4 base L' 8 m' c' P' xa' xb' → (P' ≠ [] → ∀ b, blockOf xa' = some b ∨ blockOf xb' = some b → b ∉ five w0.heap.size) → (P' ≠ [] → ∀ b, blockOf xa' = some b ∨ blockOf xb' = some b → b ∉ T) → c' ≤ c + 8 → (m' = m ∧ eqE (markA (fl x) k t) (fr x) (fl x) (fr x) = true ∨ m' = stored m a 8 (wd (markA (fl x) k t) (fr x) : Nat) ∧ eqE (markA (fl x) k t) (fr x) (fl x) (fr x) = false) → J29 [] w4 := by
        intro L' m' c' P' xa' xb' w4 f4 d21 hr4 hb4 hbT hc4 hcase
        obtain ⟨hlen', hall', hsub'⟩ := hr4.cells
        have hd4' := dropL4 hlen'
        have hs4' := spliceL4 hlen'
        have l7 := lt_of_at f4.c4
        have l8 := lt_of_at d21
        apply hJ29
        intro _
        refine joinL.intro fun J31 hJ31 => ?_
        refine reg31 (x := a) f4.c0 d21 (he.ext f4.ext (by simp)) hD fun ve' w5 hve' hvb h5' hx5 => ?_
        have f5 := f4.upU h5' hx5
        have hs5 := hx5.size
        have d21 := hx5.at d21 (by simp; omega)
        have hl5 := hl.ext f5.ext (by simp)
        have hr5 := hr4.ext' hx5 (fun h0 b hb => by have := hb4 h0 b hb; simp [five] at this; simp; omega)
        apply hJ31
        intro _
        obtain ⟨ae', ce', rfl⟩ := hve'.len
        have hlD : ((D ++ [Dn.mk (markA (fl x) k t) (fr x) a]).map deC).length = D.length + 1 := by simp
        have e1 : ((D.length + 1 : Nat) : Int) - 1 = ((D.length : Nat) : Int) := by omega
        rw [hlD] at f5
        obtain ⟨c0, c1, c2, c3, c4, x5⟩ := id f5
        simp (disch := first | assumption | omega | (simp only [szR, entC_len, entC_all, un_len] <;> omega) | rfl | decide) only [gen0, gen1, gen2, rulesM, rulesU, litR, bolR, Nat.reduceAdd, Nat.reduceLeDiff, numR, memR, valR, heapR, updR, intR, decR, extR, slR, segR, thenR, pnR, Int.reduceToNat, Int.reduceAdd, Int.reduceSub, Int.reduceLT, Int.reduceLE, Nat.reduceSub, Nat.reduceMul, Nat.reduceEqDiff, c0, e0, e1]
        refine rPut_spec (l := ⟨ai, (va / 4096 : Nat), D.length⟩) (hl5.ext (S := []) (by (repeat first | assumption | exact Ext.refl | apply Ext.alloc | apply Ext.drew | (refine Ext.updN ?_ ?_; (focus first | omega | (simp only [szR] <;> omega))) | (refine Ext.updI ?_ ?_; (focus (simp; done))))) (by simp)) (by omega) rfl hRn (by show (0 : Int) ≤ ((va / 4096 : Nat) : Int); omega) p1 p2 p3 p4 fun vl' w6 hvl' hlb' hx6 => ?_
        have hx56 : Ext [] w5 w6 := Ext.trans (S := []) (by (repeat first | assumption | exact Ext.refl | apply Ext.alloc | apply Ext.drew | (refine Ext.updN ?_ ?_; (focus first | omega | (simp only [szR] <;> omega))) | (refine Ext.updI ?_ ?_; (focus (simp; done))))) hx6 (by simp)
        have f6 := f5.to hx56
        have hs6 := hx56.size
        have d21 := hx56.at d21 (by simp)
        have hve6 := hve'.ext hx56 (by simp)
        have hr6 := hr5.ext hx56 (by simp)
        obtain ⟨al', cl', rfl⟩ := hvl'.len
        have hsz6 := hx6.size
        try simp only [szR] at hlb'
        have hfin : ∀ w9, Ext (five w0.heap.size) w6 w9 → Ext [] w0 w9 → K (.tuple #[.agg (ruC (.slice al' ((rput (R.filter (fun r => !(r.a == (ai : Int) && r.n == ((va / 4096 : Nat) : Int)))) ⟨ai, (va / 4096 : Nat), D.length⟩ A B).map rfC).length cl') (.slice ae' (D.length + 1) ce') ro ai g).toArray, .agg L'.toArray, .agg (plA (markA (fl x) k t) (fr x) va k).toArray, .int .i64 0]) w9 := by
          intro w9 hx9 hw9
          rw [← hlD]
          refine r4 _ _ L' m' c' P' xa' xb' w9 (hvl'.at hx9 fun b hb => five_out (by have := hlb' b hb; omega)) (fun b hb => by have := hlb' b hb; have := f6.ext.size; omega) (hve6.at hx9 fun b hb => five_out (by have := hvb b hb; omega)) (fun b hb => by have := hvb b hb; omega) (hr6.ext' hx9 hb4) hbT hc4 hcase hw9
        clear r4 hJ29 hJ31 hcase hr4 hr5 hr6 hve' hve6 p3 p4 hRn
        have f7 := f6.setU (U' := [.slice al' ((rput (R.filter (fun r => !(r.a == (ai : Int) && r.n == ((va / 4096 : Nat) : Int)))) ⟨ai, (va / 4096 : Nat), D.length⟩ A B).map rfC).length cl', .slice ae' (D.length + 1) ce', .int .u64 ro, .int .u64 ai, .bool g])
        have d21' : (World.upd w6 w0.heap.size [.slice al' ((rput (R.filter (fun r => !(r.a == (ai : Int) && r.n == ((va / 4096 : Nat) : Int)))) ⟨ai, (va / 4096 : Nat), D.length⟩ A B).map rfC).length cl', .slice ae' (D.length + 1) ce', .int .u64 ro, .int .u64 ai, .bool g]).heap[w3.heap.size]? = some (.cells (entC (markA (fl x) k t) (fr x)).toArray 37 (0, 0)) := (upd_ne (by omega)).trans d21
        have c60 := f6.c0
        have hx67 : Ext (five w0.heap.size) w6 (World.upd w6 w0.heap.size [.slice al' ((rput (R.filter (fun r => !(r.a == (ai : Int) && r.n == ((va / 4096 : Nat) : Int)))) ⟨ai, (va / 4096 : Nat), D.length⟩ A B).map rfC).length cl', .slice ae' (D.length + 1) ce', .int .u64 ro, .int .u64 ai, .bool g]) := Ext.updI (by simp [five]) Ext.refl
        clear c0 c1 c2 c3 c4 x5
        have hfin7 := fun w9 h9 => hfin w9 (hx67.trans h9 (fun k hk => .inl hk))
        clear hfin hx67
        obtain ⟨d0, d1, d2, d3, d4, x6⟩ := id f6
        have l9 := lt_of_at d4
        simp only [five] at hfin7
        simp (disch := first | assumption | omega | (simp only [szR, entC_len, entC_all, un_len] <;> omega) | rfl | decide) only [gen0, gen1, gen2, rulesM, rulesU, litR, bolR, Nat.reduceAdd, Nat.reduceLeDiff, numR, memR, valR, heapR, updR, intR, decR, extR, slR, segR, thenR, pnR, Int.reduceToNat, Int.reduceAdd, Int.reduceSub, Int.reduceLT, Int.reduceLE, Nat.reduceSub, Nat.reduceMul, Nat.reduceEqDiff, d0, d1, d2, d3, d4, d21, hsub', hlen', hall', entC_sub]
        clear d0 d1 d2 d3 d4 c60
        have hs7 := upd_size w6 w0.heap.size [.slice al' ((rput (R.filter (fun r => !(r.a == (ai : Int) && r.n == ((va / 4096 : Nat) : Int)))) ⟨ai, (va / 4096 : Nat), D.length⟩ A B).map rfC).length cl', .slice ae' (D.length + 1) ce', .int .u64 ro, .int .u64 ai, .bool g]
        repeat' (with_reducible apply And.intro)
        all_goals
          refine rplace_spec hfr hva fun w8 hx8 => ?_
          obtain ⟨c0, c1, c2, c3, c4, x8⟩ := f7.to (Ext.trans (S := []) (by (repeat first | assumption | exact Ext.refl | apply Ext.alloc | apply Ext.drew | (refine Ext.updN ?_ ?_; (focus first | omega | (simp only [szR] <;> omega))) | (refine Ext.updI ?_ ?_; (focus (simp; done))))) hx8 (by simp))
          have hx78 : Ext [w0.heap.size, w0.heap.size + 1, w0.heap.size + 1 + 1, w0.heap.size + 1 + 1 + 1, w0.heap.size + 1 + 1 + 1 + 1] (World.upd w6 w0.heap.size [.slice al' ((rput (R.filter (fun r => !(r.a == (ai : Int) && r.n == ((va / 4096 : Nat) : Int)))) ⟨ai, (va / 4096 : Nat), D.length⟩ A B).map rfC).length cl', .slice ae' (D.length + 1) ce', .int .u64 ro, .int .u64 ai, .bool g]) w8 := Ext.trans (by (repeat first | assumption | exact Ext.refl | apply Ext.alloc | apply Ext.drew | (refine Ext.updN ?_ ?_; (focus first | omega | (simp only [szR] <;> omega))) | (refine Ext.updI ?_ ?_; (focus (simp; done))))) hx8 (by simp)
          have l4 := lt_of_at c4
          have r1 := hfin7
          simp only [plA, plC, ruC] at r1 ⊢
          simp (disch := first | assumption | omega | (simp only [szR, entC_len, entC_all, un_len] <;> omega) | rfl | decide) only [gen0, gen1, gen2, rulesM, rulesU, litR, bolR, Nat.reduceAdd, Nat.reduceLeDiff, numR, memR, valR, heapR, updR, intR, decR, extR, slR, segR, thenR, pnR, Int.reduceToNat, Int.reduceAdd, Int.reduceSub, Int.reduceLT, Int.reduceLE, Nat.reduceSub, Nat.reduceMul, Nat.reduceEqDiff, c0, c1, c2, c3, c4, hsub', hlen', hall', hd4', hs4']
          repeat' (with_reducible apply And.intro)
          all_goals exact r1 _ (by (repeat first | assumption | exact Ext.refl | apply Ext.alloc | apply Ext.drew | (refine Ext.updN ?_ ?_; (focus first | omega | (simp only [szR] <;> omega))) | (refine Ext.updI ?_ ?_; (focus (simp; done))))) (by (repeat first | assumption | exact Ext.refl | apply Ext.alloc | apply Ext.drew | (refine Ext.updN ?_ ?_; (focus first | omega | (simp only [szR] <;> omega))) | (refine Ext.updI ?_ ?_; (focus (simp; done)))))
      have l29 := f3.c0
      cases hq : eqE (markA (fl x) k t) (fr x) (fl x) (fr x)
      · have hx21 : Ext [] w3 (w3.alloc (.cells (entC (markA (fl x) k t) (fr x)).toArray 37)) := by (repeat first | assumption | exact Ext.refl | apply Ext.alloc | apply Ext.drew | (refine Ext.updN ?_ ?_; (focus first | omega | (simp only [szR] <;> omega))) | (refine Ext.updI ?_ ?_; (focus (simp; done))))
        have f3' := f3.to hx21
        have d21 : (w3.alloc (.cells (entC (markA (fl x) k t) (fr x)).toArray 37)).heap[w3.heap.size]? = some (.cells (entC (markA (fl x) k t) (fr x)).toArray 37 (0, 0)) := alloc_at rfl
        have d18' := hx21.at d18 (by simp)
        have hs21 : (w3.alloc (.cells (entC (markA (fl x) k t) (fr x)).toArray 37)).heap.size = w3.heap.size + 1 := by simp only [szR]
        clear r4 p3 p4 hJ29 hRn
        generalize w3.alloc (.cells (entC (markA (fl x) k t) (fr x)).toArray 37) = w4 at *
        obtain ⟨c0, c1, c2, c3, c4, x4⟩ := id f3'
        have hwl := wd_lt (markA (fl x) k t) (fr x)
        simp (disch := first | assumption | omega | (simp only [szR, entC_len, entC_all, un_len] <;> omega) | rfl | decide) only [gen0, gen1, gen2, rulesM, rulesU, litR, bolR, Nat.reduceAdd, Nat.reduceLeDiff, numR, memR, valR, heapR, updR, intR, decR, extR, slR, segR, thenR, pnR, Int.reduceToNat, Int.reduceAdd, Int.reduceSub, Int.reduceLT, Int.reduceLE, Nat.reduceSub, Nat.reduceMul, Nat.reduceEqDiff, d21, d18', entC_sub, neqR37, hq, c1, hsub, hlen]
        clear c0 c2 c3 c4
        repeat' (with_reducible apply And.intro)
        all_goals
          refine RWord_spec (by omega) fun w5 hx5 => ?_
          have hx45 : Ext [] w4 w5 := Ext.trans (S := []) (by (repeat first | assumption | exact Ext.refl | apply Ext.alloc | apply Ext.drew | (refine Ext.updN ?_ ?_; (focus first | omega | (simp only [szR] <;> omega))) | (refine Ext.updI ?_ ?_; (focus (simp; done))))) hx5 (by simp)
          have f5 := f3'.to hx45
          have c51 := f5.c1
          have hs5 := hx45.size
          simp (disch := first | assumption | omega | (simp only [szR, entC_len, entC_all, un_len] <;> omega) | rfl | decide) only [gen0, gen1, gen2, rulesM, rulesU, litR, bolR, Nat.reduceAdd, Nat.reduceLeDiff, numR, memR, valR, heapR, updR, intR, decR, extR, slR, segR, thenR, pnR, Int.reduceToNat, Int.reduceAdd, Int.reduceSub, Int.reduceLT, Int.reduceLE, Nat.reduceSub, Nat.reduceMul, Nat.reduceEqDiff, c51, hsub, hlen]
          refine rStore_spec2 ((h.ext f5.ext (by simp)).ext (S := []) (by (repeat first | assumption | exact Ext.refl | apply Ext.alloc | apply Ext.drew | (refine Ext.updN ?_ ?_; (focus first | omega | (simp only [szR] <;> omega))) | (refine Ext.updI ?_ ?_; (focus (simp; done))))) (by simp)) (by have := f5.ext.size; first | omega | (simp only [szR]; omega)) hc (by omega) ha8 (by omega) (by omega) fun L' P' xa' xb' w6 hr6 hx6 => ?_
          have hx56 : Ext [] w5 w6 := Ext.trans (S := []) (by (repeat first | assumption | exact Ext.refl | apply Ext.alloc | apply Ext.drew | (refine Ext.updN ?_ ?_; (focus first | omega | (simp only [szR] <;> omega))) | (refine Ext.updI ?_ ?_; (focus (simp; done))))) hx6 (by simp)
          have f6 := f5.to hx56
          have c61 := f6.c1
          have d21 := (hx45.trans hx56 (by simp)).at d21 (by simp)
          obtain ⟨hlen6, hall6, hsub6⟩ := hr6.cells
          have hsp := splice_all (l := L) (vs := L') (by omega)
          have hdr := drop_all (l := L) (vs := L') (by omega)
          simp (disch := first | assumption | omega | (simp only [szR, entC_len, entC_all, un_len] <;> omega) | rfl | decide) only [gen0, gen1, gen2, rulesM, rulesU, litR, bolR, Nat.reduceAdd, Nat.reduceLeDiff, numR, memR, valR, heapR, updR, intR, decR, extR, slR, segR, thenR, pnR, Int.reduceToNat, Int.reduceAdd, Int.reduceSub, Int.reduceLT, Int.reduceLE, Nat.reduceSub, Nat.reduceMul, Nat.reduceEqDiff, c61, hlen6, hall6, hsp, hdr]
          have hlow : ∀ b, blockOf xa' = some b ∨ blockOf xb' = some b → w0.heap.size + 1 + 1 + 1 + 1 < b := by
            intro b hb
            have := hb.elim (hr6.lowa b) (hr6.lowb b)
            have := f5.ext.size
            try simp only [szR] at this
            omega
          have hr6' : RMem w6 base L' 8 (stored m a 8 (wd (markA (fl x) k t) (fr x) : Nat)) (c + 8) P' xa' xb' := ⟨hr6.val, hr6.rowa, hr6.rowb, fun b hb => by have := hlow b (.inl hb); omega, fun b hb => by have := hlow b (.inr hb); omega, hr6.lk, hr6.len⟩
          exact h29 L' _ (c + 8) P' xa' xb' _ f6.setL ((upd_ne (by omega)).trans d21) (hr6'.ext' (S := [w0.heap.size + 1]) (by (repeat first | assumption | exact Ext.refl | apply Ext.alloc | apply Ext.drew | (refine Ext.updN ?_ ?_; (focus first | omega | (simp only [szR] <;> omega))) | (refine Ext.updI ?_ ?_; (focus (simp; done))))) fun _ b hb => by have := hlow b hb; simp; omega) (fun _ b hb => five_out (hlow b hb)) (fun _ b hb hm => by have := hlow b hb; have := hT b hm; omega) (Nat.le_refl _) (.inr ⟨rfl, hq⟩)
      · simp (disch := first | assumption | omega | (simp only [szR, entC_len, entC_all, un_len] <;> omega) | rfl | decide) only [gen0, gen1, gen2, rulesM, rulesU, litR, bolR, Nat.reduceAdd, Nat.reduceLeDiff, numR, memR, valR, heapR, updR, intR, decR, extR, slR, segR, thenR, pnR, Int.reduceToNat, Int.reduceAdd, Int.reduceSub, Int.reduceLT, Int.reduceLE, Nat.reduceSub, Nat.reduceMul, Nat.reduceEqDiff, d18, entC_sub, neqR37, hq]
        have hx21 : Ext [] w3 (w3.alloc (.cells (entC (markA (fl x) k t) (fr x)).toArray 37)) := by (repeat first | assumption | exact Ext.refl | apply Ext.alloc | apply Ext.drew | (refine Ext.updN ?_ ?_; (focus first | omega | (simp only [szR] <;> omega))) | (refine Ext.updI ?_ ?_; (focus (simp; done))))
        exact h29 L m c P xa xb _ (f3.to hx21) (by first | with_reducible rfl | assumption | (simp (disch := first | assumption | omega | (simp only [szR, entC_len, entC_all, un_len] <;> omega) | rfl | decide) only [gen0, gen1, gen2, rulesM, rulesU, litR, bolR, Nat.reduceAdd, Nat.reduceLeDiff, numR, memR, valR, heapR, updR, intR, decR, extR, slR, segR, thenR, pnR, Int.reduceToNat, Int.reduceAdd, Int.reduceSub, Int.reduceLT, Int.reduceLE, Nat.reduceSub, Nat.reduceMul, Nat.reduceEqDiff] <;> rfl)) (h.ext (f3.ext.trans hx21 (by simp)) (by simp)) (fun h0 b hb => five_low (hb.elim (fun hb => h.rowa.blt (by simpa using h0) b hb) (fun hb => h.rowb.blt (by simpa using h0) b hb))) hxT (by omega) (.inl ⟨rfl, hq⟩)
    · have r3 := r3 hcc
      simp only [plC] at r3
      clear r4
      simp (disch := first | assumption | omega | (simp only [szR, entC_len, entC_all, un_len] <;> omega) | rfl | decide) only [gen0, gen1, gen2, rulesM, rulesU, litR, bolR, Nat.reduceAdd, Nat.reduceLeDiff, numR, memR, valR, heapR, updR, intR, decR, extR, slR, segR, thenR, pnR, Int.reduceToNat, Int.reduceAdd, Int.reduceSub, Int.reduceLT, Int.reduceLE, Nat.reduceSub, Nat.reduceMul, Nat.reduceEqDiff, c0, c1, c2, c3, c4, hsub, hlen, hall, hd4, hs4]
      refine ⟨⟨?_, ?_⟩, ?_⟩
      all_goals exact r3 _ (by (repeat first | assumption | exact Ext.refl | apply Ext.alloc | apply Ext.drew | (refine Ext.updN ?_ ?_; (focus first | omega | (simp only [szR] <;> omega))) | (refine Ext.updI ?_ ?_; (focus (simp; done)))))
end Go.Proofs.Ytbigiabcgplkgaa
