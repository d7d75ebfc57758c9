/- The spans of a bitmap, told; conditions: those of each theorem. -/
import Derived.Test.YtgnibcaflidjmaaSK4
namespace Go.Proofs.Ytgnibcaflidjmaa
open Go Go.RowKit Go.Shelf Go.Fx
set_option maxRecDepth 100000
set_option linter.unusedSimpArgs false
set_option linter.unusedVariables false
/-- a granule put behind spans. -/
def addG (l : List (Nat × Nat)) (G : Nat) : List (Nat × Nat) := match l.getLast? with
  | some (a, b) => if b = G then l.dropLast ++ [(a, G + 1)] else l ++ [(G, G + 1)]
  | none => [(G, G + 1)]
theorem addG_eq (l : List (Nat × Nat)) (a G : Nat) : addG (l ++ [(a, G)]) G = l ++ [(a, G + 1)] := by simp [addG]
theorem addG_ne {b G : Nat} (l : List (Nat × Nat)) (a : Nat) (h : b ≠ G) : addG (l ++ [(a, b)]) G = l ++ [(a, b)] ++ [(G, G + 1)] := by simp [addG, h]
def gsF (l : List (Nat × Nat)) (n : Nat) (gs : List Nat) : List (Nat × Nat) := gs.foldl (fun l q => addG l (256 * n + q)) l
/-- the spans of pages. -/
def spF (B : Nat → Bool) (ys : List Nat) : List (Nat × Nat) := ys.foldl (fun l n => gsF l n (grs (pgB B n) 256)) []
theorem appS {base : Nat} {v x : Value} {rows rows2 : List (List Value)} {w : World} {K : Value → World → Prop} (hown : OwnR w base 47 2 v rows) (hx : RowsAt w x 2 rows2) (h1 : ∀ r ∈ rows2, r.all (fun v => v.oneCell') = true)
    (hl : rows.length + rows2.length ≤ 1000000) (hbase : base ≤ w.heap.size) (hK : ∀ v' w', OwnR w' base 47 2 v' (rows ++ rows2) → App base v w w' → K v' w') : resV K ((Builtin.append_ #[55, 55] 55 #[v, x]).run Try.prog w) :=
  kV_appR Try.underlying55 (by kernel_rfl) (by omega) (bytes := 16) hown hx h1 (by simp only [maxLen]; omega) (by omega) hbase hK
theorem own_apart {w : World} {b1 b2 : Nat} {v u : Value} {r1 r2 : List (List Value)} (h1 : OwnR w b1 47 2 v r1) (h2 : OwnR w b2 3 1 u r2) : ∀ b, blockOf u = some b → b ∉ (blockOf v).toList := by
  intro b hb hm
  have hv : blockOf v = some b := by simpa using hm
  rcases h1.own.2 with ⟨rfl, -⟩ | ⟨g, cap, cur, rfl, -, hg, -⟩
  · cases hv
  · cases hv
    rcases h2.own.2 with ⟨rfl, -⟩ | ⟨g2, cap2, cur2, rfl, -, hg2, -⟩
    · cases hb
    · cases hb
      rw [hg] at hg2
      simp only [Option.some.injEq, Obj.cells.injEq] at hg2
      exact absurd hg2.2.1 (by decide)
theorem own_int {w : World} {base j : Nat} {u : Value} {gs : List Nat} (h : OwnR w base 3 1 u (gs.map kC)) (hj : j < gs.length) : ∃ (g cap : Nat) (cur : List Value), u = .slice (some ⟨g, 0, none⟩) gs.length cap ∧ w.heap[g]? = some (.cells cur.toArray 3 (0, 0)) ∧ cur[j]? = some (.int .i64 (gs[j] : Nat)) := by
  have h0 := h.own.2
  simp only [List.length_map] at h0
  rcases h0 with ⟨-, h0⟩ | ⟨g, cap, cur, rfl, -, hg, hn, hc, hs, ht⟩
  · omega
  · refine ⟨g, cap, cur, rfl, hg, ?_⟩
    have h1 : (cur.take (gs.length * 1))[j]? = (gs.map kC).flatten[j]? := by rw [ht]
    have h2 : (gs.map kC).flatten = gs.map fun k => Value.int .i64 (k : Nat) := by
      clear h h1 ht hs hn hj
      induction gs with
      | nil => rfl
      | cons x l ih => simp only [List.map_cons, List.flatten_cons, ih]; rfl
    rw [List.getElem?_take_of_lt (by omega), h2, List.getElem?_map, List.getElem?_eq_getElem hj] at h1
    exact h1
set_option maxHeartbeats 2000000 in
theorem Spans_spec {w : World} {m N : Nat} {B : Nat → Bool} (hB : Bm w (some m) B) (hN : ∀ ys, PagesOf B ys → ys.length ≤ N) (hN2 : N ≤ 1000) (hBd : ∀ k, anyB (pgB B k) = true → k < 67108864) {K : Value → World → Prop}
    (hK : ∀ v l w', OwnR w' w.heap.size 47 2 v (l.map spU) → Cov l (fun g => B g = true) → l.length ≤ 256000 → (∃ ys, PagesOf B ys ∧ Asc ys 0 ys.length ∧ l = spF B ys) → Ext [] w w' → K v w') :
    callsK Try.prog 23 #[.agg [.map (some m)].toArray] w K := by
  apply F23_ok
  unfold F23
  have e1 : ∀ x : Value, sub [x] 0 1 = [x] := fun _ => rfl
  have hx1 : Ext [] w (w.alloc (.cells [.map (some m)].toArray 50)) := Ext.alloc Ext.refl _ _
  have hb1 : (w.alloc (.cells [.map (some m)].toArray 50)).heap[w.heap.size]? = some (.cells [.map (some m)].toArray 50 (0, 0)) := alloc_at rfl
  have hs1 : (w.alloc (.cells [.map (some m)].toArray 50)).heap.size = w.heap.size + 1 := by simp only [szR]
  simp (disch := first | assumption | omega | (simp only [szR, tgC_len, tgC_all, tsC_len, tsC_all] <;> omega) | rfl | decide) only [gen0, gen1, gen2, rulesV, rulesM, litR, bolR, Nat.reduceAdd, Nat.reduceLeDiff, numR, memR, valR, heapR, updR, intR, decR, extR, slR, segR, thenR, pnR, Int.reduceToNat, Int.reduceAdd, Int.reduceSub, Int.reduceLT, Int.reduceLE, Nat.reduceSub, Nat.reduceMul, Nat.reduceEqDiff, e1]
  generalize w.alloc (.cells [.map (some m)].toArray 50) = w1 at hx1 hb1 hs1 ⊢
  refine keys_spec ?_
  have hx2 : Ext [] w1 (w1.alloc (.cells #[.map (some m)] 48)) := Ext.alloc Ext.refl _ _
  have hk2 : (w1.alloc (.cells #[.map (some m)] 48)).heap[w1.heap.size]? = some (.cells [Value.map (some m)].toArray 48 (0, 0)) := alloc_at rfl
  simp (disch := first | assumption | omega | (simp only [szR, tgC_len, tgC_all, tsC_len, tsC_all] <;> omega) | rfl | decide) only [gen0, gen1, gen2, rulesV, rulesM, litR, bolR, Nat.reduceAdd, Nat.reduceLeDiff, numR, memR, valR, heapR, updR, intR, decR, extR, slR, segR, thenR, pnR, Int.reduceToNat, Int.reduceAdd, Int.reduceSub, Int.reduceLT, Int.reduceLE, Nat.reduceSub, Nat.reduceMul, Nat.reduceEqDiff]
  refine Sorted_spec hk2 ((hB.ext0 hx1).ext0 hx2) hN hN2 hBd fun u ys w3 hys hya hu hub hx3 => ?_
  have hx4 : Ext [] w w3 := (hx1.trans hx2 (by simp)).trans hx3 (by simp)
  have hb3 := hx3.at (hx2.at hb1 (by simp)) (by simp)
  have hB3 := hB.ext0 hx4
  have hlen := hN ys hys
  obtain ⟨a, c, hf⟩ : ∃ a c, u = .slice a ys.length c := by
    rcases hu with ⟨rfl, rfl⟩ | ⟨g, c, rfl, -⟩
    · exact ⟨none, 0, rfl⟩
    · exact ⟨_, _, rfl⟩
  subst hf
  obtain ⟨base, hbase⟩ : ∃ base, base = w3.heap.size := ⟨_, rfl⟩
  have hug : ∀ g, blockOf (.slice a ys.length c) = some g → g < base := by
    intro g hg
    rcases hu with ⟨e, -⟩ | ⟨g', c', e, hsu⟩
    · have := congrArg blockOf e
      rw [hg] at this
      cases this
    · have h2 := congrArg blockOf e
      rw [hg] at h2
      have h3 : g = g' := by simpa [blockOf] using h2
      obtain ⟨cur, hcur, -⟩ := hsu.at'
      have := lt_of_at hcur
      omega
  have hbb : w.heap.size < base := by
    have := lt_of_at hb3
    omega
  simp (disch := first | assumption | omega | (simp only [szR, tgC_len, tgC_all, tsC_len, tsC_all] <;> omega) | rfl | decide) only [gen0, gen1, gen2, rulesV, rulesM, litR, bolR, Nat.reduceAdd, Nat.reduceLeDiff, numR, memR, valR, heapR, updR, intR, decR, extR, slR, segR, thenR, pnR, Int.reduceToNat, Int.reduceAdd, Int.reduceSub, Int.reduceLT, Int.reduceLE, Nat.reduceSub, Nat.reduceMul, Nat.reduceEqDiff]
  refine loopT.intro (fun st w' => ∃ (i : Nat) (v : Value) (l : List (Nat × Nat)), i ≤ ys.length ∧ st = [v, .int .i64 (i : Nat)] ∧ OwnR w' base 47 2 v (l.map spU) ∧ Cov l (fun g => B g = true ∧ g / 256 ∈ ys.take i) ∧ l.length ≤ 256 * i ∧ l = spF B (ys.take i) ∧ w'.heap[w.heap.size]? = some (.cells [.map (some m)].toArray 50 (0, 0)) ∧ UAt w' (.slice a ys.length c) ys ∧ Ext [] w w' ∧ base ≤ w'.heap.size)
    (fun st _ => match st with
      | [_, .int _ y] => ys.length - y.toNat
      | _ => 0) ⟨0, .slice none 0 0, [], by omega, rfl, OwnR.nil, Cov.none (by simp), by simp, rfl, hb3, hu, hx4, by omega⟩ ?_
  rintro st w4 ⟨i, v, l, hi, rfl, ho, hcov, hll, hlF, hbm, hut, hxw, hbs⟩ _
  by_cases hil : i < ys.length
  rotate_left
  · have d : decide (((i : Nat) : Int) < ((ys.length : Nat) : Int)) = false := decide_eq_false (by omega)
    have e : i = ys.length := by omega
    subst e
    simp (disch := first | assumption | omega | (simp only [szR, tgC_len, tgC_all, tsC_len, tsC_all] <;> omega) | rfl | decide) only [gen0, gen1, gen2, rulesV, rulesM, litR, bolR, Nat.reduceAdd, Nat.reduceLeDiff, numR, memR, valR, heapR, updR, intR, decR, extR, slR, segR, thenR, pnR, Int.reduceToNat, Int.reduceAdd, Int.reduceSub, Int.reduceLT, Int.reduceLE, Nat.reduceSub, Nat.reduceMul, Nat.reduceEqDiff, joinBR, d]
    refine hK v l w4 (ho.low (by omega)) (hcov.congr fun g => ?_) (by omega) ⟨ys, hys, hya, by rw [hlF, List.take_length]⟩ hxw
    rw [List.take_length, hys.2]
    constructor
    · exact fun h => h.1
    · intro h
      refine ⟨h, anyB_iff.2 ⟨g % 256, Nat.mod_lt _ (by omega), ?_⟩⟩
      rw [pgB_at (Nat.mod_lt _ (by omega)), show 256 * (g / 256) + g % 256 = g by omega]
      exact h
  have d : decide (((i : Nat) : Int) < ((ys.length : Nat) : Int)) = true := decide_eq_true (by omega)
  have ei : ((i : Nat) : Int) + 1 = ((i + 1 : Nat) : Int) := by omega
  obtain ⟨gu, cu, eu, hsu⟩ : ∃ gu cu, Value.slice a ys.length c = .slice (some ⟨gu, 0, none⟩) ys.length cu ∧ SU w4 gu ys.length ys := by
    rcases hut with ⟨-, e⟩ | h
    · rw [e] at hil
      simp at hil
    · exact h
  cases eu
  obtain ⟨curu, hbu, hcl, hcu⟩ := hsu.at'
  have gi := hcu i hil
  obtain ⟨n, hn⟩ : ∃ n, n = ys[i] := ⟨_, rfl⟩
  rw [← hn] at gi
  have hnB : anyB (pgB B n) = true := (hys.2 n).1 (by rw [hn]; exact List.getElem_mem hil)
  have hn26 := hBd n hnB
  have hlk := look_spec (hB.ext0 hxw) n
  simp (disch := first | assumption | omega | (simp only [szR, tgC_len, tgC_all, tsC_len, tsC_all] <;> omega) | rfl | decide) only [gen0, gen1, gen2, rulesV, rulesM, litR, bolR, Nat.reduceAdd, Nat.reduceLeDiff, numR, memR, valR, heapR, updR, intR, decR, extR, slR, segR, thenR, pnR, Int.reduceToNat, Int.reduceAdd, Int.reduceSub, Int.reduceLT, Int.reduceLE, Nat.reduceSub, Nat.reduceMul, Nat.reduceEqDiff, joinBR, d, hbu, gi, hbm, hlk]
  refine All_spec fun vg w5 hog hx5 => ?_
  obtain ⟨gs, hgs⟩ : ∃ gs, gs = grs (pgB B n) 256 := ⟨_, rfl⟩
  rw [← hgs] at hog
  have hgsl : gs.length ≤ 256 := by rw [hgs]; exact grs_len _ _
  have hgsm : ∀ q, q ∈ gs ↔ q < 256 ∧ pgB B n q = true := by intro q; rw [hgs]; exact grs_mem _ _ _
  obtain ⟨ag, cg, hvg⟩ : ∃ ag cg, vg = .slice ag gs.length cg := by
    obtain ⟨ag, cg, h⟩ := hog.rows.len
    exact ⟨ag, cg, by simpa using h⟩
  have hut5 := hut.ext hx5 (by simp)
  have hbm5 := hx5.at hbm (by simp)
  have ho5 := ho.ext hx5 (by simp)
  have hxw5 := hxw.trans hx5 (by simp)
  have hbs5 := Nat.le_trans hbs hx5.size
  have hgo := hog
  rw [hvg] at hog ⊢
  simp (disch := first | assumption | omega | (simp only [szR, tgC_len, tgC_all, tsC_len, tsC_all] <;> omega) | rfl | decide) only [gen0, gen1, gen2, rulesV, rulesM, litR, bolR, Nat.reduceAdd, Nat.reduceLeDiff, numR, memR, valR, heapR, updR, intR, decR, extR, slR, segR, thenR, pnR, Int.reduceToNat, Int.reduceAdd, Int.reduceSub, Int.reduceLT, Int.reduceLE, Nat.reduceSub, Nat.reduceMul, Nat.reduceEqDiff, joinBR]
  refine loopT.intro (fun st w' => ∃ (j : Nat) (v : Value) (l : List (Nat × Nat)), j ≤ gs.length ∧ st = [v, .int .i64 (j : Nat)] ∧ OwnR w' base 47 2 v (l.map spU) ∧ Cov l (fun g => (B g = true ∧ g / 256 ∈ ys.take i) ∨ (g / 256 = n ∧ g % 256 ∈ gs.take j)) ∧ l.length ≤ 256 * i + j ∧ l = gsF (spF B (ys.take i)) n (gs.take j) ∧ w'.heap[w.heap.size]? = some (.cells [.map (some m)].toArray 50 (0, 0)) ∧ UAt w' (.slice (some ⟨gu, 0, none⟩) ys.length c) ys ∧ OwnR w' w4.heap.size 3 1 (.slice ag gs.length cg) (gs.map kC) ∧ Ext [] w w' ∧ base ≤ w'.heap.size)
    (fun st _ => match st with
      | [_, .int _ y] => gs.length - y.toNat
      | _ => 0) ⟨0, v, l, by omega, rfl, ho5, hcov.congr (fun g => by simp), by omega, hlF, hbm5, hut5, hog, hxw5, hbs5⟩ ?_
  clear ho hcov hll hlF hbm hut hxw hbs hsu hbu hcl hcu hlk hog hut5 hbm5 ho5 hxw5 hbs5 gi
  rintro st w6 ⟨j, v, l, hj, rfl, ho, hcov, hll, hlF, hbm, hut, hog, hxw, hbs⟩ _
  by_cases hjl : j < gs.length
  rotate_left
  · have d2 : decide (((j : Nat) : Int) < ((gs.length : Nat) : Int)) = false := decide_eq_false (by omega)
    have e : j = gs.length := by omega
    subst e
    simp (disch := first | assumption | omega | (simp only [szR, tgC_len, tgC_all, tsC_len, tsC_all] <;> omega) | rfl | decide) only [gen0, gen1, gen2, rulesV, rulesM, litR, bolR, Nat.reduceAdd, Nat.reduceLeDiff, numR, memR, valR, heapR, updR, intR, decR, extR, slR, segR, thenR, pnR, Int.reduceToNat, Int.reduceAdd, Int.reduceSub, Int.reduceLT, Int.reduceLE, Nat.reduceSub, Nat.reduceMul, Nat.reduceEqDiff, joinBR, d2, ei]
    refine ⟨⟨i + 1, v, l, by omega, rfl, ho, hcov.congr fun g => ?_, by omega, by rw [hlF, List.take_length, List.take_succ_eq_append_getElem hil, ← hn, hgs, spF, spF, List.foldl_append]; rfl, hbm, hut, hxw, hbs⟩, by omega⟩
    rw [List.take_length, List.take_succ_eq_append_getElem hil, ← hn, hgsm]
    constructor
    · rintro (⟨h1, h2⟩ | ⟨h1, h2, h3⟩)
      · exact ⟨h1, List.mem_append_left _ h2⟩
      · rw [pgB_at h2, show 256 * n + g % 256 = g by omega] at h3
        exact ⟨h3, List.mem_append_right _ (by simp [h1])⟩
    · rintro ⟨h1, h2⟩
      rcases List.mem_append.1 h2 with h2 | h2
      · exact .inl ⟨h1, h2⟩
      · have e : g / 256 = n := by simpa using h2
        refine .inr ⟨e, by omega, ?_⟩
        rw [pgB_at (by omega), show 256 * n + g % 256 = g by omega]
        exact h1
  have d2 : decide (((j : Nat) : Int) < ((gs.length : Nat) : Int)) = true := decide_eq_true (by omega)
  have ej : ((j : Nat) : Int) + 1 = ((j + 1 : Nat) : Int) := by omega
  obtain ⟨g7, c7, cur7, ev7, hb7, g7j⟩ := own_int hog hjl
  obtain ⟨q, hq⟩ : ∃ q, q = gs[j] := ⟨_, rfl⟩
  rw [← hq] at g7j
  have hq256 := ((hgsm q).1 (by rw [hq]; exact List.getElem_mem hjl)).1
  obtain ⟨G, hG⟩ : ∃ G, G = 256 * n + q := ⟨_, rfl⟩
  have hGl : G < 17179869184 := by omega
  have f1 : ((n : Nat) : Int) * 4096 = ((n * 4096 : Nat) : Int) := by omega
  have f2 : ((q : Nat) : Int) * 16 = ((q * 16 : Nat) : Int) := by omega
  have f3 : ((n * 4096 : Nat) : Int) + ((q * 16 : Nat) : Int) = ((16 * G : Nat) : Int) := by omega
  have f4 : ((16 * G : Nat) : Int) + 16 = ((16 * (G + 1) : Nat) : Int) := by omega
  have hDnext : ∀ g, ((B g = true ∧ g / 256 ∈ ys.take i) ∨ (g / 256 = n ∧ g % 256 ∈ gs.take j)) ∨ g = G ↔ (B g = true ∧ g / 256 ∈ ys.take i) ∨ (g / 256 = n ∧ g % 256 ∈ gs.take (j + 1)) := by
    intro g
    rw [List.take_succ_eq_append_getElem hjl, ← hq, List.mem_append, List.mem_singleton]
    constructor
    · rintro ((h1 | ⟨h1, h2⟩) | h1)
      · exact .inl h1
      · exact .inr ⟨h1, .inl h2⟩
      · exact .inr ⟨by omega, .inr (by omega)⟩
    · rintro (h1 | ⟨h1, h2 | h2⟩)
      · exact .inl (.inl h1)
      · exact .inl (.inr ⟨h1, h2⟩)
      · exact .inr (by omega)
  obtain ⟨av, cv, ev⟩ := ho.rows.len
  rw [List.length_map] at ev
  simp (disch := first | assumption | omega | (simp only [szR, tgC_len, tgC_all, tsC_len, tsC_all] <;> omega) | rfl | decide) only [gen0, gen1, gen2, rulesV, rulesM, litR, bolR, Nat.reduceAdd, Nat.reduceLeDiff, numR, memR, valR, heapR, updR, intR, decR, extR, slR, segR, thenR, pnR, Int.reduceToNat, Int.reduceAdd, Int.reduceSub, Int.reduceLT, Int.reduceLE, Nat.reduceSub, Nat.reduceMul, Nat.reduceEqDiff, joinBR, d2]
  refine joinL.intro fun J4 hJ4 => ?_
  have HJ4 : ∀ (v' : Value) (l' : List (Nat × Nat)) w', OwnR w' base 47 2 v' (l'.map spU) → Cov l' (fun g => ((B g = true ∧ g / 256 ∈ ys.take i) ∨ (g / 256 = n ∧ g % 256 ∈ gs.take j)) ∨ g = G) → l'.length ≤ l.length + 1 → l' = addG l G → w'.heap[w.heap.size]? = some (.cells [.map (some m)].toArray 50 (0, 0)) → UAt w' (.slice (some ⟨gu, 0, none⟩) ys.length c) ys → OwnR w' w4.heap.size 3 1 (.slice ag gs.length cg) (gs.map kC) → Ext [] w w' → base ≤ w'.heap.size → J4 [v'] w' := by
    intro v' l' w' k1 k2 k3 kF k4 k5 k6 k7 k8
    apply hJ4
    intro _
    simp (disch := first | assumption | omega | (simp only [szR, tgC_len, tgC_all, tsC_len, tsC_all] <;> omega) | rfl | decide) only [gen0, gen1, gen2, rulesV, rulesM, litR, bolR, Nat.reduceAdd, Nat.reduceLeDiff, numR, memR, valR, heapR, updR, intR, decR, extR, slR, segR, thenR, pnR, Int.reduceToNat, Int.reduceAdd, Int.reduceSub, Int.reduceLT, Int.reduceLE, Nat.reduceSub, Nat.reduceMul, Nat.reduceEqDiff, joinBR, ej]
    exact ⟨⟨j + 1, v', l', by omega, rfl, k1, k2.congr hDnext, by omega, by rw [kF, hlF, List.take_succ_eq_append_getElem hjl, ← hq, hG, gsF, gsF, List.foldl_append]; rfl, k4, k5, k6, k7, k8⟩, by omega⟩
  clear hJ4
  rw [ev7] at hog HJ4 ⊢
  have HAP : ∀ (K' : Value → World → Prop), (∀ v' w', OwnR w' base 47 2 v' ((l ++ [(G, G + 1)]).map spU) → w'.heap[w.heap.size]? = some (.cells [.map (some m)].toArray 50 (0, 0)) → UAt w' (.slice (some ⟨gu, 0, none⟩) ys.length c) ys → OwnR w' w4.heap.size 3 1 (.slice (some ⟨g7, 0, none⟩) gs.length c7) (gs.map kC) → Ext [] w w' → base ≤ w'.heap.size → K' v' w') →
      resV K' ((Builtin.append_ #[55, 55] 55 #[v, .slice (some ⟨w6.heap.size, 0, none⟩) 1 1]).run Try.prog (w6.alloc (.cells #[.int .u64 (16 * G : Nat), .int .u64 (16 * (G + 1) : Nat)] 47))) := by
    intro K' hK'
    have hxa : Ext [] w6 (w6.alloc (.cells #[.int .u64 (16 * G : Nat), .int .u64 (16 * (G + 1) : Nat)] 47)) := Ext.alloc Ext.refl _ _
    have hlt6 := lt_of_at hbm
    refine appS (rows2 := [spU (G, G + 1)]) (ho.ext hxa (by simp)) (RowsAt.one (l := spU (G, G + 1)) (by first | with_reducible rfl | assumption | (simp (disch := first | assumption | omega | (simp only [szR, tgC_len, tgC_all, tsC_len, tsC_all] <;> omega) | rfl | decide) only [gen0, gen1, gen2, rulesV, rulesM, litR, bolR, Nat.reduceAdd, Nat.reduceLeDiff, numR, memR, valR, heapR, updR, intR, decR, extR, slR, segR, thenR, pnR, Int.reduceToNat, Int.reduceAdd, Int.reduceSub, Int.reduceLT, Int.reduceLE, Nat.reduceSub, Nat.reduceMul, Nat.reduceEqDiff] <;> rfl)) rfl) (spU_all [(G, G + 1)]) (by simp; omega) (by simp only [szR]; omega) fun v' w' ho' hp' => ?_
    have hx7 : Ext (blockOf v).toList w6 w' := (hxa.mono (by simp)).step hp'.step
    have hvb : ∀ k, k ∈ (blockOf v).toList → base ≤ k := fun k hk => ho.block k (by simpa using hk)
    rw [show l.map spU ++ [spU (G, G + 1)] = (l ++ [(G, G + 1)]).map spU by simp] at ho'
    exact hK' v' w' ho' (hx7.at hbm (fun hm => by have := hvb _ hm; omega)) (hut.ext hx7 (fun k hk hm => by have := hvb k hm; have := hug k (by simpa [blockOf] using hk); omega)) (hog.ext hx7 (own_apart ho hog)) (hxw.trans hx7 (fun k hk => .inr (by have := hvb k hk; omega))) (Nat.le_trans hbs hx7.size)
  rcases List.eq_nil_or_concat l with rfl | ⟨l0, ⟨a0, b0⟩, hl0⟩
  · rw [ev] at HAP ⊢
    simp (disch := first | assumption | omega | (simp only [szR, tgC_len, tgC_all, tsC_len, tsC_all] <;> omega) | rfl | decide) only [gen0, gen1, gen2, rulesV, rulesM, litR, bolR, Nat.reduceAdd, Nat.reduceLeDiff, numR, memR, valR, heapR, updR, intR, decR, extR, slR, segR, thenR, pnR, Int.reduceToNat, Int.reduceAdd, Int.reduceSub, Int.reduceLT, Int.reduceLE, Nat.reduceSub, Nat.reduceMul, Nat.reduceEqDiff, joinBR, hb7, g7j, f1, f2, f3, f4]
    refine HAP _ fun v' w' k1 k2 k3 k4 k5 k6 => ?_
    exact HJ4 v' _ w' k1 (hcov.more hGl) (by simp) rfl k2 k3 k4 k5 k6
  · rw [List.concat_eq_append] at hl0
    subst hl0
    obtain ⟨g8, c8, cur8, ev8, hb8, hg8, hcl8, h8, hset⟩ := own_last ho
    have hll0 : (l0 ++ [(a0, b0)]).length = l0.length + 1 := by simp
    rw [ev8] at HAP ⊢
    have f5 : ((l0.length + 1 : Nat) : Int) - 1 = ((l0.length : Nat) : Int) := by omega
    by_cases hbG : b0 = G
    · subst hbG
      simp (disch := first | assumption | omega | (simp only [szR, tgC_len, tgC_all, tsC_len, tsC_all] <;> omega) | rfl | decide) only [gen0, gen1, gen2, rulesV, rulesM, litR, bolR, Nat.reduceAdd, Nat.reduceLeDiff, numR, memR, valR, heapR, updR, intR, decR, extR, slR, segR, thenR, pnR, Int.reduceToNat, Int.reduceAdd, Int.reduceSub, Int.reduceLT, Int.reduceLE, Nat.reduceSub, Nat.reduceMul, Nat.reduceEqDiff, joinBR, hb7, g7j, f1, f2, f3, f4, f5, hg8, h8]
      have hlt6 := lt_of_at hbm
      have hxu : Ext [g8] w6 (World.upd w6 g8 (cur8.set (l0.length * 2 + 1) (.int .u64 (16 * (b0 + 1) : Nat)))) := Ext.updI (by simp) Ext.refl
      have hap := own_apart ho hog
      have hs8 := hset (b0 + 1)
      rw [ev8] at hs8 hap
      exact HJ4 _ (l0 ++ [(a0, b0 + 1)]) _ hs8 (hcov.last hGl) (by simp) (addG_eq l0 a0 b0).symm (hxu.at hbm (fun hm => by have := List.mem_singleton.1 hm; omega))
        (hut.ext hxu (fun k hk hm => by have := List.mem_singleton.1 hm; have := hug k (by simpa [blockOf] using hk); omega))
        (hog.ext hxu (fun k hk hm => hap k hk (by simpa [blockOf] using hm)))
        (hxw.trans hxu (fun k hk => .inr (by have := List.mem_singleton.1 hk; omega))) (Nat.le_trans hbs hxu.size)
    · have d3 : decide (((16 * b0 : Nat) : Int) = ((16 * G : Nat) : Int)) = false := decide_eq_false (by omega)
      have d4 : (((16 * b0 : Nat) : Int) == ((16 * G : Nat) : Int)) = false := by simp; omega
      simp (disch := first | assumption | omega | (simp only [szR, tgC_len, tgC_all, tsC_len, tsC_all] <;> omega) | rfl | decide) only [gen0, gen1, gen2, rulesV, rulesM, litR, bolR, Nat.reduceAdd, Nat.reduceLeDiff, numR, memR, valR, heapR, updR, intR, decR, extR, slR, segR, thenR, pnR, Int.reduceToNat, Int.reduceAdd, Int.reduceSub, Int.reduceLT, Int.reduceLE, Nat.reduceSub, Nat.reduceMul, Nat.reduceEqDiff, joinBR, hb7, g7j, f1, f2, f3, f4, f5, hg8, h8, d3, d4]
      refine HAP _ fun v' w' k1 k2 k3 k4 k5 k6 => ?_
      exact HJ4 v' _ w' k1 (hcov.more hGl) (by simp) (addG_ne l0 a0 hbG).symm k2 k3 k4 k5 k6
end Go.Proofs.Ytgnibcaflidjmaa
